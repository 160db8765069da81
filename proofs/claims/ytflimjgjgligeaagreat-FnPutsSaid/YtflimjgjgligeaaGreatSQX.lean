/-
  Part QX: lemmas on an evaluator over plain data of the model's code, plain laws on lists and numbers, or contracts of functions of the program; each lemma names its conditions.
-/
import Derived.Test.YtflimjgjgligeaaGreatSA1
import Derived.Test.YtflimjgjgligeaaGreatSA4
import Derived.Test.YtflimjgjgligeaaGreatSA5
import Derived.Test.YtflimjgjgligeaaGreatSA6
import Derived.Test.YtflimjgjgligeaaGreatSB1
import Derived.Test.YtflimjgjgligeaaGreatSB4
import Derived.Test.YtflimjgjgligeaaGreatSE1
import Derived.Test.YtflimjgjgligeaaGreatSE2
import Derived.Test.YtflimjgjgligeaaGreatSE3
import Derived.Test.YtflimjgjgligeaaGreatSE4
import Derived.Test.YtflimjgjgligeaaGreatSE5
import Derived.Test.YtflimjgjgligeaaGreatSE6
import Derived.Test.YtflimjgjgligeaaGreatSIns
import Derived.Test.YtflimjgjgligeaaGreatSKI
import Derived.Test.YtflimjgjgligeaaGreatSKJ
import Derived.Test.YtflimjgjgligeaaGreatSNA
import Derived.Test.YtflimjgjgligeaaGreatSP1
import Derived.Test.YtflimjgjgligeaaGreatSP2
import Derived.Test.YtflimjgjgligeaaGreatSP3
import Derived.Test.YtflimjgjgligeaaGreatSR0
import Derived.Test.YtflimjgjgligeaaGreatSSort
import Derived.Test.YtflimjgjgligeaaGreatSTryzShelfP

set_option linter.unusedSimpArgs false
set_option linter.unusedVariables false
set_option maxRecDepth 100000
set_option maxHeartbeats 16000000
set_option linter.defProp false
namespace Go.Rx
open Go Go.RowKit
theorem ZBE {n:Nat} {o:AObj} (h:ZkM o):ZhJ [(n,o)]:=fun p hp=>by simp at hp;subst hp;exact h
section
variable {P:Program} {h:Heap} {tb:Nat} {f:FuncId} {args:List V} {K:OK} {xs:List D} {ls:List Nat} {res:V} {H':List (Nat×AObj)}
theorem ZBG {n off len k off' len':Nat} (xs:List D):ZbL (.own n off len::xs.map Arg.dat) (.own k off' len'::xs.map fun _=>V.dead)=fun j=>bif k==j then some n else none:=by
 funext j;simp only [ZbL];rw [Zf8]
theorem ZBC {n off len m:Nat} {ys:List (List D)} {rest:List V} (hn:h n=some (.arr m ys)) (hr:toDs h rest=some (xs,ls)):
  ZbT h [true] (.own n off len::rest)=some (.own n off len::xs.map .dat,[n],ls):=by
 simp only [ZbT,List.drop_succ_cons,List.drop_nil,Zcm hr,List.headD_cons,Zb8,hn]
theorem ZBF {n off len m:Nat} {ys ys':List (List D)} {rest:List V} {r:V} (hn:h n=some (.arr m ys)) (hr:toDs h rest=some (xs,ls)) (hnl:ls.contains n=false)
  (hc:ZQ P f (.own 0 off len::xs.map .d) [(0,.arr m ys)] (.own 0 off len::xs.map fun _=> .dead) r [(0,.arr m ys')]) (hl:ys.length=ys'.length) (hfl:ZcQ r) (hfo:ZkM (.arr m ys'))
  (hk:K (renV (fun j=>bif 0==j then some n else none) r) [(n,none),(n,some (.arr m ys'))]):Z2 P h tb f (.own n off len::rest) K:=by
 have hidx:idx [n] n=some 0:=by simp [idx]
 have hb:back tb (.own n off len::xs.map Arg.dat) (.own 0 off len::xs.map fun _=>V.dead) [(0,.arr m ys')]=fun j=>bif 0==j then some n else none:=by
  funext j;unfold back;rw [ZBG];cases j with
  |zero=>rfl
  |succ j=>rfl
 refine ⟨[],[true],_,_,_,.own 0 off len::xs.map fun _=> .dead,r,[(0,.arr m ys')],ZBC hn hr,?_,?_,?_,?_,.inl ⟨.inr ⟨hfl,ZBE hfo⟩,?_⟩⟩
 ·simp only [List.filterMap_cons,Arg.name?,Zft,nodup,List.all_cons,List.all_nil,hnl];simp
 ·have e1:(xs.map Arg.dat).map (argV [n])=xs.map .d:=by rw [List.map_map];rfl
  simp only [List.map_cons,e1,argV,renC,hidx,objs,hn,renO];exact hc
 ·simp only [Zaw,hget,Zza,ZdZ,ZcC];simp [nodup]
 ·refine ⟨?_,ZeH xs⟩;simp [Zt6,hn,hget,hl]
 ·rw [Zga,hb];simpa [renO] using hk
end
section
variable {w:World} {ok:Nat→Prop} {lam:Nat→Option Nat} {h:Heap}
end
end Go.Rx

namespace Go.Rx
open Go
def ZEy (l:List ZhI):List (List D):=l.map ZhI.cells
theorem ZEB {l:List ZhI}:(ZEy l).length=l.length:=by simp [ZEy]
theorem ZEA {m:List ZhI} {n:Nat}:(ZEy m).take n=ZEy (m.take n):=by simp [ZEy]
theorem ZEJ {m:List ZhI}:∀c∈ZEy m,c.length=2:=fun c hc=>by simp only [ZEy,List.mem_map] at hc;obtain ⟨p,_,rfl⟩:=hc;rfl
theorem ZEK {m:List ZhI}:∀c∈ZEy m,∀d∈c,d.one=true:=fun c hc d hd=>by
 simp only [ZEy,List.mem_map] at hc;obtain ⟨p,_,rfl⟩:=hc;simp only [ZhI.cells,List.mem_cons,List.not_mem_nil,or_false] at hd;rcases hd with rfl|rfl<;>rfl
theorem ZEC {m:List ZhI} {aName:List UInt8} {aKind:Int}:ZEy m++[[.str aName,.int .i64 aKind]]=ZEy (m++[⟨aName,aKind⟩]):=by simp [ZEy,ZhI.cells]
theorem ZEE {m:List ZhI} {i:Nat} {aName:List UInt8} {aKind:Int}:(ZEy m).set i [.str aName,.int .i64 aKind]=ZEy (m.set i ⟨aName,aKind⟩):=by simp [ZEy,List.map_set,ZhI.cells]
theorem ZEL {m:List ZhI}:(ZEy m).take m.length=ZEy m:=by rw [ZEA,List.take_length]
theorem ZEH {m:List ZhI} {p:ZhI}:(ZEy (m++[p])).take (m.length+1)=ZEy (m++[p]):=by rw [ZEA,List.take_of_length_le (by simp)]
theorem ZEF {m:List ZhI}:(∀c∈ZEy m,c.length=2)=True:=eq_true ZEJ
theorem ZEG {m:List ZhI}:(∀c∈ZEy m,∀d∈c,d.one=true)=True:=eq_true ZEK
attribute [go_sem] ZEB ZEC ZEE ZEL ZEH ZEF ZEG
end Go.Rx

namespace Go.Rx
open Go
theorem ZEg {w w':ZS} {n:Z1} {p:Int} (h:putN w n=some (w',p)):(putO w n).1.work=w'∧(putO w n).2=p:=by
 have hg:=ZDW (w:=w);rw [putO,h];simp only [and_true];unfold putN at h;split at h
 ·split at h
  ·cases h
  ·split at h
   ·cases h
   ·rename_i d hd;simp only [Option.some.injEq,Prod.mk.injEq] at h;obtain ⟨rfl,rfl⟩:=h;unfold Zak at hd;split at hd
    ·obtain rfl:=Option.some.inj hd;rw [←hg];rfl
    ·cases hd
 ·cases h
end Go.Rx

namespace Go.Rx
open Go
attribute [local irreducible] Req Way WayG Sel Z2 ZQ Zaz cVC Zai ZaO
theorem ZD9 {l:List Int}:∀e∈ints l,∀d∈e,d.one=true:=fun c hc d hd=>by simp only [ints,List.mem_map] at hc;obtain ⟨_,_,rfl⟩:=hc;simp at hd;subst hd;rfl
theorem ZD8 {l:List Key}:∀e∈strs l,∀d∈e,d.one=true:=fun c hc d hd=>by simp only [strs,List.mem_map] at hc;obtain ⟨_,_,rfl⟩:=hc;simp at hd;subst hd;rfl
theorem ZEc {h:Heap} {tb n k i m:Nat} {K:OK} (l:List Int) (x:Int) (hm:m=l.length) (hi:i≤l.length) (hl:l.length≤1048576) (hn:h n=some (.arr 1 (ints l))) (hk:h k=some (.arr 1 [[.int .i64 x]])) (hne:(n==k)=false)
  (hK:K (.own tb 0 (m+1)) [(n,none),(k,none),(tb,some (.arr 1 (ints (l.take i++x::l.drop i))))]):Z2 Go.Proofs.Tryz.prog h tb 195 [.own n 0 m,.d (.int .i64 i),.own k 0 1] K:=by
 subst hm;have hc:=ZDI (ins_int Go.Proofs.Tryz.lays2_21) ⟨_,Go.Proofs.Tryz.func195,by kernel_rfl,by kernel_rfl⟩ (ints l) [.int .i64 x] i (by rw [Za7];exact hi) (by rw [Za7];exact hl) ZD9 (fun d hd=>by simp at hd;subst hd;rfl);have he:(ints l).take i++[D.int .i64 x]::(ints l).drop i=ints (l.take i++x::l.drop i):=by simp [ints,List.map_take,List.map_drop]
 rw [he] at hc;have:=ZDK (tb:=tb) (K:=K) hn hk hne hc (by rw [Za7];exact hK)
 rwa [Za7] at this
theorem ZFt {h:Heap} {tb n k i m:Nat} {K:OK} (l:List Key) (x:Key) (hm:m=l.length) (hi:i≤l.length) (hl:l.length≤1048576) (hn:h n=some (.arr 1 (strs l))) (hk:h k=some (.arr 1 [[.str x]])) (hne:(n==k)=false)
  (hK:K (.own tb 0 (m+1)) [(n,none),(k,none),(tb,some (.arr 1 (strs (l.take i++x::l.drop i))))]):Z2 Go.Proofs.Tryz.prog h tb 194 [.own n 0 m,.d (.int .i64 i),.own k 0 1] K:=by
 subst hm;have hc:=ZDI (ins_str Go.Proofs.Tryz.lays2_22) ⟨_,Go.Proofs.Tryz.func194,by kernel_rfl,by kernel_rfl⟩ (strs l) [.str x] i (by rw [ZdT];exact hi) (by rw [ZdT];exact hl) ZD8 (fun d hd=>by simp at hd;subst hd;rfl);have he:(strs l).take i++[D.str x]::(strs l).drop i=strs (l.take i++x::l.drop i):=by simp [strs,List.map_take,List.map_drop]
 rw [he] at hc;have:=ZDK (tb:=tb) (K:=K) hn hk hne hc (by rw [ZdT];exact hK)
 rwa [ZdT] at this
theorem str_of {w:World} {ok:Nat→Prop} {s:List UInt8} {c:Value} (h:DRel w ok (.str s) c):c= .string ⟨⟨s⟩⟩:=by cases h;rfl
theorem km_Del1Int {h:Heap} {tb n i m:Nat} {K:OK} (l:List Int) (hm:m=l.length) (hi:i<l.length) (hl:l.length≤1048576) (hn:h n=some (.arr 1 (ints l)))
  (hK:K (.own tb 0 (m - 1)) [(n,none),(tb,some (.arr 1 (ints (l.take i++l.drop (i+1)))))]):Z2 Go.Proofs.Tryz.prog h tb 240 [.own n 0 m,.d (.int .i64 i),.d (.int .i64 (i+1:Nat))] K:=by
 subst hm;exact ZDL hn (ZDJ (c:=fun x=> .int .i64 x) (del_int Go.Proofs.Tryz.lays2_23) ⟨_,Go.Proofs.Tryz.func240,by kernel_rfl,by kernel_rfl⟩ (fun _ _ _ _ h=>int_of h) l i hi hl) hK
theorem km_Del1Str {h:Heap} {tb n i m:Nat} {K:OK} (l:List Key) (hm:m=l.length) (hi:i<l.length) (hl:l.length≤1048576) (hn:h n=some (.arr 1 (strs l)))
  (hK:K (.own tb 0 (m - 1)) [(n,none),(tb,some (.arr 1 (strs (l.take i++l.drop (i+1)))))]):Z2 Go.Proofs.Tryz.prog h tb 239 [.own n 0 m,.d (.int .i64 i),.d (.int .i64 (i+1:Nat))] K:=by
 subst hm;exact ZDL hn (ZDJ (c:=fun x=> .str x) (del_str Go.Proofs.Tryz.lays2_24) ⟨_,Go.Proofs.Tryz.func239,by kernel_rfl,by kernel_rfl⟩ (fun _ _ _ _ h=>str_of h) l i hi hl) hK
theorem ZEd {l:List Int} {p:Int} {i:Nat} (h1:∀q∈l.take i,q<p) (h2:∀q,l[i]? =some q→¬q<p) (hi:i≤l.length):Zpf l p=l.take i++p::l.drop i:=by
 have hd:(l.drop i).takeWhile (fun q=>decide (q<p))=[]∧(l.drop i).dropWhile (fun q=>decide (q<p))=l.drop i:=by
  cases hx:l.drop i with
  |nil=>exact ⟨rfl,rfl⟩
  |cons q m=>
   have:=h2 q (by have:=congrArg (·[0]?) hx;simpa using this);simp [List.takeWhile_cons,List.dropWhile_cons,this]
 have ht:∀m:List Int,(∀q∈m,q<p)→∀r:List Int,(m++r).takeWhile (fun q=>decide (q<p))=m++r.takeWhile (fun q=>decide (q<p))∧(m++r).dropWhile (fun q=>decide (q<p))=r.dropWhile (fun q=>decide (q<p)):=by
  intro m;induction m with
  |nil=>intro _ r;exact ⟨rfl,rfl⟩
  |cons a m ih=>
   intro hm r;have ha:=hm a (by simp);obtain ⟨e1,e2⟩:=ih (fun q hq=>hm q (by simp [hq])) r;simp [List.takeWhile_cons,List.dropWhile_cons,ha,e1,e2]
 obtain ⟨e1,e2⟩:=ht (l.take i) h1 (l.drop i);rw [List.take_append_drop] at e1 e2;rw [Zpf,e1,e2,hd.1,hd.2,List.append_nil]
@[go_sem] def hr242:ZW:=hh [[0,1],[0,1]]
@[go_sem] def hl242:ZW:=hh []
attribute [go_sem] Go.Proofs.Tryz.results242
theorem ZEb (q p:Int):ZQ Go.Proofs.Tryz.prog 242 [.d (.int .i64 q),.d (.ptr [.int .i64 p])] [] [.dead,.dead] (.d (.bool (decide (q=p)))) []:=by
 refine cof Go.Proofs.Tryz.func242 hr242 hl242 [false,false] ?_;simp -implicitDefEqProofs only [go_sem];repeat ((first|refine rq ?_|refine wl ?_|refine gl ?_|fail);simp -implicitDefEqProofs only [go_sem])
 try rfl
def ki_dp1 (q p:Int):=kf (ZEb q p)
@[go_sem] def hr199:ZW:=hh [[0,1],[2,3,4],[2,3,4,5],[3,4,5],[4,5],[2,3,4,5],[2,3,4,5],[2,3,4,5,6],[2,3,4,5,6],[3,4,5,6],[4,5]]
@[go_sem] def hl199:ZW:=hh [[],[],[],[],[],[],[],[2,3,4,5,6]]
attribute [go_sem] Go.Proofs.Tryz.results199
theorem ZD7 (w:ZS) (p:Int) (hw:smallW w):ZQ Go.Proofs.Tryz.prog 199 [.d (.agg w.cells),.d (.int .i64 p)] [] [.dead,.dead] (.d (.agg (ZbP w p).cells)) []:=by
 refine cofF Go.Proofs.Tryz.func199 hr199 hl199 ?_;have hw':=hw;obtain ⟨⟨h1,h2⟩,h3,h4,h5⟩:=hw';simp -implicitDefEqProofs only [go_sem,ZS.cells];refine ZDN w hw (by simp -implicitDefEqProofs only [go_sem,ZS.cells_eq];first|done|rfl) ?_;simp -implicitDefEqProofs only [go_sem];repeat ((first|refine rq ?_|fail);simp -implicitDefEqProofs only [go_sem])
 refine ZAb w.Zf p (by simp only [LEN];omega) (by simp -implicitDefEqProofs only [go_sem];first|done|rfl) ?_;unfold ZbP;by_cases hf:p∈w.Zf
 ·have df:=decide_eq_true hf;rw [if_pos hf];simp -implicitDefEqProofs only [go_sem,df];repeat ((first|refine rq ?_|refine wl ?_|refine gl ?_|fail);simp -implicitDefEqProofs only [go_sem,df])
  refine ZBF (n:=13) (ls:=[1]) (xs:=[.clo 242 [.ptr [.int .i64 p]]]) rfl rfl rfl (ci_DelInt w.Zf _ [.ptr [.int .i64 p]] (fun q=>decide (q=p)) (by omega) fun q _=>ZEb q p) (by rw [Za7,Za7,ZCL]) (.own _ _ _) Zhu ?_;simp -implicitDefEqProofs only [go_sem];repeat ((first|refine rq ?_|refine wl ?_|refine gl ?_|fail);simp -implicitDefEqProofs only [go_sem])
  refine ZY (α:=Nat) (fun i=>⟨[(2,.ref 0 0),(3,.ref 1 0),(4,.ref 2 0),(5,.ref 8 0),(6,.d (.int .i64 i))],[(0,some (.box [.d (.sl (strs w.Zc.Zv)),.d (.sl (Zae w.Zc.Zm)),.d (.int .i64 w.Zs),.d (.sl (ints w.ZH)),.d (.sl (ints w.Zg)),.d (.sl (ints w.Zf))])),(1,some (.box [.d (.int .i64 p)])),(2,some (.box [.own 3 0 0,.own 4 0 0,.d (.int .i64 0),.own 5 0 0,.own 6 0 0,.own 7 0 0])),(3,some (.arr 1 [])),(4,some (.arr 2 [])),(5,some (.arr 1 [])),(6,some (.arr 1 [])),(7,some (.arr 1 [])),(8,some (.box [.own 9 0 w.Zc.Zv.length,.own 10 0 w.Zc.Zm.length,.d (.int .i64 w.Zs),.own 11 0 w.ZH.length,.own 12 0 w.Zg.length,.own 13 0 (w.Zf.filter fun x=> !decide (x=p)).length])),(9,some (.arr 1 (strs w.Zc.Zv))),(10,some (.arr 2 (Zae w.Zc.Zm))),(11,some (.arr 1 (ints w.ZH))),(12,some (.arr 1 (ints w.Zg))),(13,some (.arr 1 (ints ((w.Zf.filter fun x=> !decide (x=p))++List.replicate (w.Zf.length - (w.Zf.filter fun x=> !decide (x=p)).length) 0))))]⟩)
   (fun i=>i≤w.ZH.length∧∀q∈w.ZH.take i,q<p) (fun i=>w.ZH.length - i) 0 rfl ⟨Nat.zero_le _,by simp⟩ ?_
  rintro i ⟨i1,i2⟩;have htk:(ints ((w.Zf.filter fun x=> !decide (x=p))++List.replicate (w.Zf.length - (w.Zf.filter fun x=> !decide (x=p)).length) 0)).take (w.Zf.filter fun x=> !decide (x=p)).length=ints (w.Zf.filter fun x=> !decide (x=p)):=ZCJ;simp -implicitDefEqProofs only [go_sem];have hti:(ints (w.ZH.take i++p::w.ZH.drop i)).take (w.ZH.length+1)=ints (w.ZH.take i++p::w.ZH.drop i):=List.take_of_length_le (by simp [ints];omega);by_cases h5:(i:Int)<w.ZH.length
  ·have d5:=decide_eq_true h5;obtain ⟨q,hq⟩:=Z3 h5;by_cases hqp:q<p
   ·have dq:=decide_eq_true hqp;simp -implicitDefEqProofs only [go_sem,d5,ZO hq,dq];repeat ((first|refine rq ?_|refine wl ?_|refine gl ?_|fail);simp -implicitDefEqProofs only [go_sem,d5,ZO hq,dq])
    rw [ZV (by simp only [LEN];omega)];refine ZP (i+1) rfl ⟨by omega,fun r hr=>?_⟩ (by omega);rw [Z7 hq] at hr;rcases List.mem_append.1 hr with hr|hr
    ·exact i2 r hr
    ·simp at hr;subst hr;exact hqp
   ·have dq:=decide_eq_false hqp;rw [ZEd i2 (fun r hr=>by rw [hq] at hr;cases hr;exact hqp) i1];simp -implicitDefEqProofs only [go_sem,d5,ZO hq,dq,htk,hti];repeat ((first|refine rq ?_|refine wl ?_|refine gl ?_|refine ZEc w.ZH p rfl (by omega) (by omega) rfl rfl rfl ?_|fail);simp -implicitDefEqProofs only [go_sem,d5,ZO hq,dq,htk,hti])
    try rfl
  ·have d5:=decide_eq_false h5;rw [ZEd i2 (fun r hr=>by have:=(List.getElem?_eq_some_iff.1 hr).1;omega) i1];simp -implicitDefEqProofs only [go_sem,d5,htk,hti];repeat ((first|refine rq ?_|refine wl ?_|refine gl ?_|refine ZEc w.ZH p rfl (by omega) (by omega) rfl rfl rfl ?_|fail);simp -implicitDefEqProofs only [go_sem,d5,htk,hti])
   try rfl
 ·have df:=decide_eq_false hf;rw [if_neg hf];simp -implicitDefEqProofs only [go_sem,df];repeat ((first|refine rq ?_|refine wl ?_|refine gl ?_|fail);simp -implicitDefEqProofs only [go_sem,df])
  try rfl
def ZEa (w:ZS) (p:Int) (hw:smallW w):=kf (ZD7 w p hw)
def cB (w:ZS) (b:Bool):List V:=[.d (.sl (strs w.Zc.Zv)),.d (.sl (Zae w.Zc.Zm)),.d (.int .i64 w.Zs),.d (.sl (ints w.ZH)),.d (.sl (ints w.Zg)),.d (.sl (ints w.Zf)),.d (.bool b)]
theorem ZEf {w:ZS} {b:Bool}:cB w b=[.d (.sl (strs w.Zc.Zv)),.d (.sl (Zae w.Zc.Zm)),.d (.int .i64 w.Zs),.d (.sl (ints w.ZH)),.d (.sl (ints w.Zg)),.d (.sl (ints w.Zf)),.d (.bool b)]:=rfl
theorem fz_owp {P:Program} {f:FuncId} {args outs:List V} {o:OW} {y:D} (hc:ZQ P f args [] outs (.tup [o.v,.d y]) o.h) (ho:(outs.all fun x=>match x with| .dead=>true|_=>false)=true):ZQ P f args [] outs (.tup [.d (.agg o.work.cells),.d y]) []:=
 ZnL (ls:=[0,1,2,3,4]) hc (by simp [ZbC,toDs,toD,cD,cDs,hget,OW.v_eq,OW.h_eq,OW.work,ZS.cells,Zdz,Zby,ZfJ,ZuZ]) ho
theorem putO_W {w:ZS} {n:Z1}:((putO w n).1.work,(putO w n).2)=putW w n:=by
 unfold putW;cases hp:putN w n with
 |none=>simp [putO,hp,ZD2]
 |some q=>obtain ⟨w',p⟩:=q;exact Prod.ext (ZEg hp).1 (ZEg hp).2
theorem ZEe (w:ZS) (n:Z1) (hw:smallW w) (h1:n.Zj.length≤LEN) (h2:n.ZJ.length≤LEN) (h3:n.Zk.length≤LEN):ZQ Go.Proofs.Tryz.prog 40 [.d (.agg w.cells),.d (.agg n.cells)] [] [.dead,.dead] (.tup [.d (.agg (putW w n).1.cells),.d (.int .i64 (putW w n).2)]) []:=by
 have h:=fz_owp (ci_PutNode w n hw h1 h2 h3) rfl;rw [←putO_W];exact h
def nodV (n:Z1):V:= .agg [.d (.bool n.Zn),.d (.sl (strs n.Zj)),.d (.sl (strs n.ZJ)),.d (.sl (ints n.Zk))]
theorem ZFu {n:Z1}:nodV n= .agg [.d (.bool n.Zn),.d (.sl (strs n.Zj)),.d (.sl (strs n.ZJ)),.d (.sl (ints n.Zk))]:=rfl
@[go_sem] def hr128:ZW:=hh [[0,1],[0,1,4],[0,4,5,6],[0,4,5],[0,4,5]]
@[go_sem] def hl128:ZW:=hh []
attribute [go_sem] Go.Proofs.Tryz.results128
theorem ZEi (w:ZS) (b:Bool) (page:Int) (hd:Zck w.Zc) (hp:(ZU w.Zc page).length≤1048576):ZQ Go.Proofs.Tryz.prog 128 [.ref 0 0,.d (.int .i64 page)] [(0,.box (cB w b))] [.ref 0 0,.dead] (nodV ((rdW w.Zc page).getD Z1.zero)) [(0,.box (cB w (b.or (rdW w.Zc page).isNone)))]:=by
 refine cof Go.Proofs.Tryz.func128 hr128 hl128 [true,false] ?_;simp -implicitDefEqProofs only [go_sem,ZEf];refine Zz9 w.Zc page (by have:=hd.1;omega) (by have:=hd.2;omega) rfl ?_;simp -implicitDefEqProofs only [go_sem];refine ZAa (ZU w.Zc page) (by omega) rfl ?_;unfold rdW;cases ZaH (ZU w.Zc page) with
 |none=>
  simp only [ZfW,Option.getD_none,Option.isNone_none,Bool.or_true,Bool.or_false];simp -implicitDefEqProofs only [go_sem,ZEf];repeat ((first|refine rq ?_|refine wl ?_|refine gl ?_|fail);simp -implicitDefEqProofs only [go_sem,ZEf])
  try rfl
 |some n=>
  simp only [ZaE,Option.getD_some,Option.isNone_some,Bool.or_false];simp -implicitDefEqProofs only [go_sem,ZEf];repeat ((first|refine rq ?_|refine wl ?_|refine gl ?_|fail);simp -implicitDefEqProofs only [go_sem,ZEf])
  try rfl
theorem ZFv {h:Heap} {tb:Nat} {K:OK} {n0:Nat} {rest:List V} (w:ZS) (b:Bool) (page:Int) (hd:Zck w.Zc) (hp:(ZU w.Zc page).length≤1048576) (hn:h n0=some (.box (cB w b))) (hro:refO h n0=[n0]) (hr:toDs h rest=some ([.int .i64 page],[])) (hnl:([]:List Nat).contains n0=false)
  (hk:K (renV (bx n0 tb [(0,.box (cB w (b.or (rdW w.Zc page).isNone)))]) (nodV ((rdW w.Zc page).getD Z1.zero))) ((bif false then ([]:List Nat).map (·,none) else [])++(n0,none)::updX n0 tb [(0,.box (cB w (b.or (rdW w.Zc page).isNone)))] [(0,.box (cB w (b.or (rdW w.Zc page).isNone)))])):Z2 Go.Proofs.Tryz.prog h tb 128 (.ref n0 0::rest) K:=
 Zbz false hn hro rfl hr hnl (ZEi w b page hd hp) rfl rfl (.inr (.inl rfl)) hk
def putB (w:ZS) (b:Bool) (n:Z1):ZS×Bool×Int:=bif b then (w,true,0) else match putN w n with
 |none=>(w,true,0)
 |some r=>(r.1,false,r.2)
@[go_sem] def hr123:ZW:=hh [[0,1],[0,3],[0],[0,3],[0,5,6],[0],[0],[0,5,6],[0,6]]
@[go_sem] def hl123:ZW:=hh []
attribute [go_sem] Go.Proofs.Tryz.results123
theorem ZEj (w:ZS) (b:Bool) (n:Z1) (hw:smallW w) (h1:n.Zj.length≤LEN) (h2:n.ZJ.length≤LEN) (h3:n.Zk.length≤LEN):ZQ Go.Proofs.Tryz.prog 123 [.ref 0 0,.d (.agg n.cells)] [(0,.box (cB w b))] [.ref 0 0,.dead] (.d (.int .i64 (putB w b n).2.2)) [(0,.box (cB (putB w b n).1 (putB w b n).2.1))]:=by
 refine cof Go.Proofs.Tryz.func123 hr123 hl123 [true,false] ?_;simp -implicitDefEqProofs only [go_sem,ZEf,Z1.cells];cases b
 ·simp -implicitDefEqProofs only [go_sem];refine Zd3 (xs:=[.agg w.cells,.agg n.cells]) (ZEe w n hw h1 h2 h3) (by simp -implicitDefEqProofs only [go_sem,ZS.cells_eq,Z1.cells_eq];first|done|rfl) rfl ?_;cases hp:putN w n with
  |none=>
   have hW:putW w n=(w,0):=by rw [putW,hp]
   have hB:putB w false n=(w,true,0):=by simp only [putB,hp,cond_false]
   have d0:decide ((0:Int)=0)=true:=rfl;rw [hW,hB];simp -implicitDefEqProofs only [go_sem,d0,ZS.cells];repeat ((first|refine rq ?_|refine wl ?_|refine gl ?_|fail);simp -implicitDefEqProofs only [go_sem,d0,ZS.cells])
   try rfl
  |some q=>
   obtain ⟨w',p⟩:=q;have hW:putW w n=(w',p):=by rw [putW,hp]
   have hB:putB w false n=(w',false,p):=by simp only [putB,hp,cond_false]
   have d0:decide (p=0)=false:=decide_eq_false (Zcl hp);rw [hW,hB];simp -implicitDefEqProofs only [go_sem,d0,ZS.cells];repeat ((first|refine rq ?_|refine wl ?_|refine gl ?_|fail);simp -implicitDefEqProofs only [go_sem,d0,ZS.cells])
   try rfl
 ·simp -implicitDefEqProofs only [go_sem,putB,cond_true];repeat ((first|refine rq ?_|refine wl ?_|refine gl ?_|fail);simp -implicitDefEqProofs only [go_sem,putB,cond_true])
  try rfl
theorem ZFw {h:Heap} {tb:Nat} {K:OK} {n0:Nat} {rest:List V} {ls:List Nat} (w:ZS) (b:Bool) (n:Z1) (hw:smallW w) (h1:n.Zj.length≤LEN) (h2:n.ZJ.length≤LEN) (h3:n.Zk.length≤LEN) (hn:h n0=some (.box (cB w b))) (hro:refO h n0=[n0]) (hr:toDs h rest=some ([.agg n.cells],ls)) (hnl:(ls:List Nat).contains n0=false)
  (hk:K (renV (bx n0 tb [(0,.box (cB (putB w b n).1 (putB w b n).2.1))]) (.d (.int .i64 (putB w b n).2.2))) ((bif true then (ls:List Nat).map (·,none) else [])++(n0,none)::updX n0 tb [(0,.box (cB (putB w b n).1 (putB w b n).2.1))] [(0,.box (cB (putB w b n).1 (putB w b n).2.1))])):Z2 Go.Proofs.Tryz.prog h tb 123 (.ref n0 0::rest) K:=
 Zbz true hn hro rfl hr hnl (ZEj w b n hw h1 h2 h3) rfl rfl (.inl rfl) hk
@[go_sem] def hr129:ZW:=hh [[0,1],[0,1]]
@[go_sem] def hl129:ZW:=hh []
attribute [go_sem] Go.Proofs.Tryz.results129
theorem ZEh (w:ZS) (b:Bool) (p:Int) (hw:smallW w):ZQ Go.Proofs.Tryz.prog 129 [.ref 0 0,.d (.int .i64 p)] [(0,.box (cB w b))] [.ref 0 0,.dead] (.tup []) [(0,.box (cB (bif b then w else ZbP w p) b))]:=by
 refine cof Go.Proofs.Tryz.func129 hr129 hl129 [true,false] ?_;simp -implicitDefEqProofs only [go_sem,ZEf];cases b
 ·simp -implicitDefEqProofs only [go_sem];refine ZEa w p hw (by simp -implicitDefEqProofs only [go_sem,ZS.cells_eq];first|done|rfl) ?_;simp -implicitDefEqProofs only [go_sem,ZS.cells];repeat ((first|refine rq ?_|refine wl ?_|refine gl ?_|fail);simp -implicitDefEqProofs only [go_sem,ZS.cells])
  try rfl
 ·simp -implicitDefEqProofs only [go_sem];repeat ((first|refine rq ?_|refine wl ?_|refine gl ?_|fail);simp -implicitDefEqProofs only [go_sem])
  try rfl
theorem ZFy {h:Heap} {tb:Nat} {K:OK} {n0:Nat} {rest:List V} (w:ZS) (b:Bool) (p:Int) (hw:smallW w) (hn:h n0=some (.box (cB w b))) (hro:refO h n0=[n0]) (hr:toDs h rest=some ([.int .i64 p],[])) (hnl:([]:List Nat).contains n0=false)
  (hk:K (renV (bx n0 tb [(0,.box (cB (bif b then w else ZbP w p) b))]) (.tup [])) ((bif false then ([]:List Nat).map (·,none) else [])++(n0,none)::updX n0 tb [(0,.box (cB (bif b then w else ZbP w p) b))] [(0,.box (cB (bif b then w else ZbP w p) b))])):Z2 Go.Proofs.Tryz.prog h tb 129 (.ref n0 0::rest) K:=
 Zbz false hn hro rfl hr hnl (ZEh w b p hw) rfl rfl (.inr (.inl rfl)) hk
def ZEn (n:Z1) (a b:Nat):Z1:=⟨n.Zn,(n.Zj.take b).drop a,bif n.Zn then (n.ZJ.take b).drop a else [],bif n.Zn then [] else (n.Zk.take b).drop a⟩
def nodO (m:Z1):V:= .agg [.d (.bool m.Zn),.own 0 0 m.Zj.length,.own 1 0 m.ZJ.length,.own 2 0 m.Zk.length]
def nodH (m:Z1):List (Nat×AObj):=[(0,.arr 1 (strs m.Zj)),(1,.arr 1 (strs m.ZJ)),(2,.arr 1 (ints m.Zk))]
theorem ZEl {m:Z1}:nodO m= .agg [.d (.bool m.Zn),.own 0 0 m.Zj.length,.own 1 0 m.ZJ.length,.own 2 0 m.Zk.length]:=rfl
theorem ZEm {m:Z1}:nodH m=[(0,.arr 1 (strs m.Zj)),(1,.arr 1 (strs m.ZJ)),(2,.arr 1 (ints m.Zk))]:=rfl
theorem ZEo {l:List Key} {a b:Nat}:((strs l).take b).drop a=strs ((l.take b).drop a):=by simp [strs,List.map_take,List.map_drop]
theorem ZEp {l:List Int} {a b:Nat}:((ints l).take b).drop a=ints ((l.take b).drop a):=by simp [ints,List.map_take,List.map_drop]
@[go_sem] def hr193:ZW:=hh [[0,1,2],[1,2,3,6],[1,2,3,6,7],[1,2,3,6,7],[1,2,3,6,7],[6,7]]
@[go_sem] def hl193:ZW:=hh []
attribute [go_sem] Go.Proofs.Tryz.results193
theorem ZEk (n:Z1) (a b:Nat) (hab:a≤b) (hk:b≤n.Zj.length) (hv:n.Zn=true→b≤n.ZJ.length) (hi:n.Zn=false→b≤n.Zk.length) (hl:n.Zj.length≤1000):ZQ Go.Proofs.Tryz.prog 193 [.d (.agg n.cells),.d (.int .i64 a),.d (.int .i64 b)] [] [.dead,.dead,.dead] (nodO (ZEn n a b)) (nodH (ZEn n a b)):=by
 refine cof Go.Proofs.Tryz.func193 hr193 hl193 [false,false,false] ?_;have hb:((n.Zj.take b).drop a).length≤1048576:=by simp;omega
 simp -implicitDefEqProofs only [go_sem,Z1.cells];repeat ((first|refine rq ?_|fail);simp -implicitDefEqProofs only [go_sem])
 refine ZAq ((n.Zj.take b).drop a) hb (by simp -implicitDefEqProofs only [go_sem,ZEo];first|done|rfl) ?_;cases hleaf:n.Zn
 ·have hh:ZEn n a b=⟨false,(n.Zj.take b).drop a,[],(n.Zk.take b).drop a⟩:=by simp [ZEn,hleaf]
  have hi:=hi hleaf;have hb2:((n.Zk.take b).drop a).length≤1048576:=by simp;omega
  rw [hh];simp -implicitDefEqProofs only [go_sem,ZEl,ZEm,hleaf];repeat ((first|refine rq ?_|refine wl ?_|refine gl ?_|refine ZBe ((n.Zk.take b).drop a) (by omega) (by simp -implicitDefEqProofs only [go_sem,ZEp];first|done|rfl) ?_|fail);simp -implicitDefEqProofs only [go_sem,ZEl,ZEm,hleaf])
  try rfl
 ·have hh:ZEn n a b=⟨true,(n.Zj.take b).drop a,(n.ZJ.take b).drop a,[]⟩:=by simp [ZEn,hleaf]
  have hv:=hv hleaf;have hb2:((n.ZJ.take b).drop a).length≤1048576:=by simp;omega
  rw [hh];simp -implicitDefEqProofs only [go_sem,ZEl,ZEm,hleaf];repeat ((first|refine rq ?_|refine wl ?_|refine gl ?_|refine ZAq ((n.ZJ.take b).drop a) hb2 (by simp -implicitDefEqProofs only [go_sem,ZEo];first|done|rfl) ?_|fail);simp -implicitDefEqProofs only [go_sem,ZEl,ZEm,hleaf])
  try rfl
def ZEu (n:Z1) (a b:Nat) (hab:a≤b) (hk:b≤n.Zj.length) (hv:n.Zn=true→b≤n.ZJ.length) (hi:n.Zn=false→b≤n.Zk.length) (hl:n.Zj.length≤1000):=kf (ZEk n a b hab hk hv hi hl)
theorem ZEs {n:Z1} (h:n.Zn=true→n.ZJ.length=n.Zj.length∧n.Zk=[]) (h2:n.Zn=false→n.Zk.length=n.Zj.length∧n.ZJ=[]):ZEn n 0 n.Zj.length=n:=by
 obtain ⟨l,ks,vs,ids⟩:=n;cases l with
 |false=>
  obtain ⟨e1,rfl⟩:=h2 rfl;simp only at e1;simp only [ZEn,List.take_length,List.drop_zero,cond_false,cond_true];rw [List.take_of_length_le (by omega)]
 |true=>
  obtain ⟨e1,rfl⟩:=h rfl;simp only at e1;simp only [ZEn,List.take_length,List.drop_zero,cond_false,cond_true];rw [List.take_of_length_le (by omega)]
theorem ZEr {n:Z1} (hok:ZaA n):(n.Zn=true→n.ZJ.length=n.Zj.length∧n.Zk=[])∧(n.Zn=false→n.Zk.length=n.Zj.length∧n.ZJ=[]):=
 ⟨fun h=>by obtain ⟨_,_,_,h4,_,h6⟩:=(ZgD h).1 hok;exact ⟨h4,List.length_eq_zero_iff.1 h6⟩,fun h=>by obtain ⟨_,_,_,h4,h5,_⟩:=(Ze4 h).1 hok;exact ⟨h4,List.length_eq_zero_iff.1 h5⟩⟩
theorem ZEv {x:ZR} {k v:Key} (h:x.Zi=k):mput [x] k v=[⟨k,v⟩]:=by
 subst h;simp [mput,Zpa]
theorem ZEw {a b:List ZR} {x:ZR} {k v:Key} (ha:∀p∈a,klt p.Zi x.Zi) (hx:kle x.Zi k) (hb:∀p∈b,klt k p.Zi):mput (a++x::b) k v=if x.Zi=k then a++⟨k,v⟩::b else a++x::⟨k,v⟩::b:=by
 split
 ·rename_i h;have:=ZwU (a:=a) (b:=[x]) (c:=b) (k:=k) (v:=v) (fun p hp=>h▸ha p hp) hb;rw [ZEv h] at this;simpa using this
 ·rename_i h;have hlt:=(ZjV hx).resolve_right h;have:=ZwU (a:=a++[x]) (b:=[]) (c:=b) (k:=k) (v:=v) (fun p hp=>by
   rcases List.mem_append.1 hp with hp|hp
   ·exact Zdk (ha p hp) hlt
   ·simp at hp;subst hp;exact hlt) hb
  simpa [mput] using this
theorem ZEx {α:Type} {a b:List α} {x:α}:(a++x::b).take (a.length+1)=a++[x]∧(a++x::b).drop (a.length+1)=b:=by
 have e:a++x::b=(a++[x])++b:=by simp
 have l:(a++[x]).length=a.length+1:=by simp
 rw [e,←l,List.take_left,List.drop_left];exact ⟨rfl,rfl⟩
@[go_sem] def hr192:ZW:=hh [[0,1,2],[1,2,3,6],[1,2,3,6,7],[1,2,3,6,7,8],[2,6,7,8],[6,7],[1,2,6,7,8],[2,6,7,8],[6,7]]
@[go_sem] def hl192:ZW:=hh []
attribute [go_sem] Go.Proofs.Tryz.results192
theorem ZEq (n:Z1) (key val:Key) (hok:ZaA n) (hleaf:n.Zn=true):ZQ Go.Proofs.Tryz.prog 192 [.d (.agg n.cells),.d (.str key),.d (.str val)] [] [.dead,.dead,.dead] (.d (.agg (Za2 (mput (Zaq n) key val)).cells)) []:=by
 refine cofF Go.Proofs.Tryz.func192 hr192 hl192 ?_;obtain ⟨s1,s2⟩:=ZEr hok;have hk4:=hok.2.1;have hall:=ZEs s1 s2;obtain ⟨hvl,hki⟩:=s1 hleaf;simp -implicitDefEqProofs only [go_sem,Z1.cells];refine ZEu n 0 n.Zj.length (by omega) (by omega) (fun _=>by omega) (fun h=>by rw [hleaf] at h;cases h) (by omega) (by simp -implicitDefEqProofs only [go_sem,Z1.cells_eq];first|done|rfl) ?_;rw [hall];simp -implicitDefEqProofs only [go_sem,ZEl,ZEm,Z1.cells];repeat ((first|refine rq ?_|fail);simp -implicitDefEqProofs only [go_sem,ZEl,ZEm])
 refine ZCi n key (by simp only [LEN];omega) (ls:=[]) (by simp -implicitDefEqProofs only [go_sem,Z1.cells_eq];first|done|rfl) ?_;have hK:=(Zb6 hok hleaf).symm;have hV:n.ZJ=(Zaq n).map (·.ZI):=by
  simp only [Zaq,List.map_map,Function.comp_def,Zfq];exact (List.map_snd_zip (by omega)).symm
 rcases Zlh (key:=key) hok hleaf with ⟨g1,g2⟩|⟨a,x,b,g1,g2,g3,g4,g5,g6,g7⟩
 ·have dc:decide ((0:Int)≤ -1)=false:=rfl;have e1:IntKind.i64.wrap ((-1:Int)+1)=((0:Nat):Int):=rfl;have hm:mput (Zaq n) key val=⟨key,val⟩::Zaq n:=by
   have:=ZwU (a:=[]) (b:=[]) (c:=Zaq n) (k:=key) (v:=val) (by simp) g2;simpa [mput] using this
  have t1:(strs (key::n.Zj)).take (n.Zj.length+1)=strs (key::n.Zj):=List.take_of_length_le (by simp [strs]);have t2:(strs (val::n.ZJ)).take (n.ZJ.length+1)=strs (val::n.ZJ):=List.take_of_length_le (by simp [strs]);rw [g1];simp -implicitDefEqProofs only [go_sem,dc,e1];repeat ((first|refine rq ?_|refine wl ?_|refine gl ?_|refine ZFt n.Zj key rfl (by omega) (by omega) rfl rfl rfl ?_|refine ZFt n.ZJ val rfl (by omega) (by omega) rfl rfl rfl ?_|fail);simp -implicitDefEqProofs only [go_sem,dc,e1])
  rw [t1,t2,hm];simp only [Za2,Z1.cells,hleaf,List.map_cons,←hK,←hV,hki]
 ·rw [g2];have dc:decide ((0:Int)≤(a.length:Int))=true:=decide_eq_true (by omega);have hm:=ZEw (v:=val) g5 g3 g4;rw [←g1] at hm;have hlen:=Ze2 hok hleaf;rw [g1,List.length_append,List.length_cons] at hlen;have hka:n.Zj[a.length]? =some x.Zi:=by rw [hK,g1];simp
  have hva:n.ZJ[a.length]? =some x.ZI:=by rw [hV,g1];simp
  have e1:IntKind.i64.wrap ((a.length:Int)+1)=((a.length+1:Nat):Int):=ZV (by simp only [LEN];omega);have hK2:n.Zj=a.map (·.Zi)++x.Zi::b.map (·.Zi):=by rw [hK,g1];simp
  have hV2:n.ZJ=a.map (·.ZI)++x.ZI::b.map (·.ZI):=by rw [hV,g1];simp
  by_cases hxk:x.Zi=key
  ·rw [if_pos hxk] at hm;have dq:=decide_eq_true hxk;have t1:n.ZJ.set a.length val=a.map (·.ZI)++val::b.map (·.ZI):=by rw [hV2];simp
   have t3:(strs (n.ZJ.set a.length val)).take n.ZJ.length=strs (n.ZJ.set a.length val):=List.take_of_length_le (by simp [strs]);simp -implicitDefEqProofs only [go_sem,dc,ZM hka,ZM hva,dq,ZfP];repeat ((first|refine rq ?_|refine wl ?_|refine gl ?_|fail);simp -implicitDefEqProofs only [go_sem,dc,ZM hka,ZM hva,dq,ZfP])
   rw [t3,hm,t1];simp only [Za2,Z1.cells,hleaf,List.map_append,List.map_cons,hki,hK2,hxk]
  ·rw [if_neg hxk] at hm;have dq:=decide_eq_false hxk;have tK:n.Zj.take (a.length+1)++key::n.Zj.drop (a.length+1)=a.map (·.Zi)++x.Zi::key::b.map (·.Zi):=by
    obtain ⟨u1,u2⟩:=ZEx (a:=a.map (·.Zi)) (b:=b.map (·.Zi)) (x:=x.Zi);rw [List.length_map,←hK2] at u1 u2;rw [u1,u2];simp
   have tV:n.ZJ.take (a.length+1)++val::n.ZJ.drop (a.length+1)=a.map (·.ZI)++x.ZI::val::b.map (·.ZI):=by
    obtain ⟨u1,u2⟩:=ZEx (a:=a.map (·.ZI)) (b:=b.map (·.ZI)) (x:=x.ZI);rw [List.length_map,←hV2] at u1 u2;rw [u1,u2];simp
   have t3:(strs (n.Zj.take (a.length+1)++key::n.Zj.drop (a.length+1))).take (n.Zj.length+1)=strs (n.Zj.take (a.length+1)++key::n.Zj.drop (a.length+1)):=List.take_of_length_le (by simp [strs];omega);have t4:(strs (n.ZJ.take (a.length+1)++val::n.ZJ.drop (a.length+1))).take (n.ZJ.length+1)=strs (n.ZJ.take (a.length+1)++val::n.ZJ.drop (a.length+1)):=List.take_of_length_le (by simp [strs];omega);simp -implicitDefEqProofs only [go_sem,dc,ZM hka,dq,e1];repeat ((first|refine rq ?_|refine wl ?_|refine gl ?_|refine ZFt n.Zj key rfl (by omega) (by omega) rfl rfl rfl ?_|refine ZFt n.ZJ val rfl (by omega) (by omega) rfl rfl rfl ?_|fail);simp -implicitDefEqProofs only [go_sem,dc,ZM hka,dq,e1])
   rw [t3,t4,tK,tV,hm];simp only [Za2,Z1.cells,hleaf,List.map_append,List.map_cons,hki]
def ZEt (n:Z1) (key val:Key) (hok:ZaA n) (hleaf:n.Zn=true):=kf (ZEq n key val hok hleaf)
def ZEz:ZS→Bool→List Z1→ZS×Bool×List GKid
 |w,b,[]=>(w,b,[])
 |w,b,n::ns=>((ZEz (putB w b n).1 (putB w b n).2.1 ns).1,(ZEz (putB w b n).1 (putB w b n).2.1 ns).2.1,⟨Zah n,(putB w b n).2.2⟩::(ZEz (putB w b n).1 (putB w b n).2.1 ns).2.2)
def catB (ks:List GKid) (r:ZS×Bool×List GKid):ZS×Bool×List GKid:=(r.1,r.2.1,ks++r.2.2)
theorem ZEQ {w:ZS} {b:Bool} {n:Z1} (h:smallW w):smallW (putB w b n).1:=by
 unfold putB;cases b
 ·cases hp:putN w n with
  |none=>exact h
  |some r=>exact ZeE h hp
 ·exact h
theorem ZED:∀ {ns:List Z1} {w:ZS},(ZEz w true ns).2.1=true
 |[],_=>rfl
 |n::ns,w=>by rw [ZEz];exact ZED
theorem ZEM:∀ {ns:List Z1} {w:ZS},match putS w ns with
  |some (w',ks)=>ZEz w false ns=(w',false,ks.map Zpc)
  |none=>(ZEz w false ns).2.1=true
 |[],w=>rfl
 |n::ns,w=>by
  rw [putS];cases hp:putN w n with
  |none=>
   have hB:putB w false n=(w,true,0):=by simp only [putB,hp,cond_false]
   simp only [ZEz,hB];exact ZED
  |some q=>
   obtain ⟨w1,p⟩:=q;have hB:putB w false n=(w1,false,p):=by simp only [putB,hp,cond_false]
   have ih:=ZEM (ns:=ns) (w:=w1);simp only [ZEz,hB];cases hs:putS w1 ns with
   |none=>rw [hs] at ih;exact ih
   |some r=>obtain ⟨w2,ks⟩:=r;rw [hs] at ih;simp only at ih ⊢;rw [ih];rfl
def ZEI (w:ZS) (n:Z1) (old:Int):ZS×Bool×List GKid:=
 (bif (ZEz w false (Zat n)).2.1 then (ZEz w false (Zat n)).1 else ZbP (ZEz w false (Zat n)).1 old,(ZEz w false (Zat n)).2.1,(ZEz w false (Zat n)).2.2)
theorem ZFz {w:ZS} {n:Z1} {old:Int}:match ZdH w (Zat n) old with
  |some (w',ks)=>ZEI w n old=(w',false,ks.map Zpc)
  |none=>(ZEI w n old).2.1=true:=by
 have h:=ZEM (ns:=Zat n) (w:=w);unfold ZdH ZEI;cases hp:putS w (Zat n) with
 |none=>rw [hp] at h;exact h
 |some r=>obtain ⟨w',ks⟩:=r;rw [hp] at h;simp only at h ⊢;rw [h];rfl
theorem ZEN {n:Z1} (hs:(n.Zn=true→n.ZJ.length=n.Zj.length∧n.Zk=[])∧(n.Zn=false→n.Zk.length=n.Zj.length∧n.ZJ=[])) (h:4<n.Zj.length):Zat n=[ZEn n 0 3,ZEn n 3 n.Zj.length]:=by
 obtain ⟨l,ks,vs,ids⟩:=n;simp only at h hs;have e:=List.take_length (l:=ks);cases l with
 |false=>
  obtain ⟨e1,rfl⟩:=hs.2 rfl;simp [Zat,ZEn,h,List.take_of_length_le (Nat.le_of_eq e1)]
 |true=>
  obtain ⟨e1,rfl⟩:=hs.1 rfl;simp [Zat,ZEn,h,List.take_of_length_le (Nat.le_of_eq e1)]
theorem ZEO {n:Z1} (hk:1≤n.Zj.length∧n.Zj.length≤100) (hs:(n.Zn=true→n.ZJ.length=n.Zj.length∧n.Zk=[])∧(n.Zn=false→n.Zk.length=n.Zj.length∧n.ZJ=[])):∀m∈Zat n,(m.Zj.length≤LEN∧m.ZJ.length≤LEN∧m.Zk.length≤LEN)∧∃k l,m.Zj=k::l:=fun m hm=>by
 have hv:n.ZJ.length≤100:=by
  cases hb:n.Zn with
  |true=>have:=(hs.1 hb).1;omega
  |false=>rw [(hs.2 hb).2];simp
 have hk2:n.Zk.length≤100:=by
  cases hb:n.Zn with
  |false=>have:=(hs.2 hb).1;omega
  |true=>rw [(hs.1 hb).2];simp
 have hc:∀l:List Key,1≤l.length→∃k r,l=k::r:=fun l hl=>by
  cases l with
  |nil=>simp at hl
  |cons k r=>exact ⟨k,r,rfl⟩
 unfold Zat at hm;simp only [LEN];split at hm
 ·simp only [List.mem_cons,List.not_mem_nil,or_false] at hm;rcases hm with rfl|rfl
  ·exact ⟨by simp only [List.length_take];omega,hc _ (by simp only [List.length_take];omega)⟩
  ·exact ⟨by simp only [List.length_drop];omega,hc _ (by simp only [List.length_drop];omega)⟩
 ·simp only [List.mem_singleton] at hm;subst hm;exact ⟨by omega,hc _ hk.1⟩
theorem ZEP {ks:List GKid} {k:Key} {p:Int}:(ZEy ks).take ks.length++[[D.str k,.int .i64 p]]=ZEy (ks++[⟨k,p⟩]):=by
 rw [List.take_of_length_le (by rw [ZEB];omega)];simp [ZEy,ZhI.cells]
@[go_sem] def hr191:ZW:=hh [[0,1,2],[0,2,4],[0,2,4,7],[0,2,4],[0,2,4,8],[0,2,7],[0,2,7,9],[0,2,9,29,30,31],[0,2,9,29,30,31],[0,2,9,11,29,30,31],[0,2,9,29,30,31],[0,2,9],[0,9]]
@[go_sem] def hl191:ZW:=hh [[],[],[],[],[],[],[],[0,2,9,29,30,31]]
attribute [go_sem] Go.Proofs.Tryz.results191
theorem ZER (w:ZS) (n:Z1) (old:Int) (hw:smallW w) (hk:1≤n.Zj.length∧n.Zj.length≤100) (hs:(n.Zn=true→n.ZJ.length=n.Zj.length∧n.Zk=[])∧(n.Zn=false→n.Zk.length=n.Zj.length∧n.ZJ=[])):ZQ Go.Proofs.Tryz.prog 191 [.ref 0 0,.d (.agg n.cells),.d (.int .i64 old)] [(0,.box (cB w false))] [.ref 0 0,.dead,.dead] (.own 1 0 (ZEI w n old).2.2.length) [(0,.box (cB (ZEI w n old).1 (ZEI w n old).2.1)),(1,.arr 2 (ZEy (ZEI w n old).2.2))]:=by
 refine cof Go.Proofs.Tryz.func191 hr191 hl191 [true,false,false] ?_;by_cases h4:4<n.Zj.length
 ·have d4:decide ((4:Int)<n.Zj.length)=true:=decide_eq_true (by omega);have hns:=ZEN hs h4;simp -implicitDefEqProofs only [go_sem,ZEf,Z1.cells,d4];refine ZEu n 0 3 (by omega) (by omega) (fun h=>by have:=(hs.1 h).1;omega) (fun h=>by have:=(hs.2 h).1;omega) (by omega) (by simp -implicitDefEqProofs only [go_sem,Z1.cells_eq];first|done|rfl) ?_;simp -implicitDefEqProofs only [go_sem,ZEl,ZEm];repeat ((first|refine rq ?_|fail);simp -implicitDefEqProofs only [go_sem,ZEl,ZEm])
  refine ZEu n 3 n.Zj.length (by omega) (by omega) (fun h=>by have:=(hs.1 h).1;omega) (fun h=>by have:=(hs.2 h).1;omega) (by omega) (by simp -implicitDefEqProofs only [go_sem,Z1.cells_eq];first|done|rfl) ?_;simp -implicitDefEqProofs only [go_sem,ZEl,ZEm];repeat ((first|refine rq ?_|fail);simp -implicitDefEqProofs only [go_sem,ZEl,ZEm])
  refine ZY (α:=Nat×ZS×Bool×List GKid) (fun x=>⟨[(0,.ref 0 0),(2,.d (.int .i64 old)),(9,.own 1 0 x.2.2.2.length),(29,.own 2 0 (Zat n).length),(30,.d (.int .i64 (Zat n).length)),(31,.d (.int .i64 x.1))],[(0,some (.box (cB x.2.1 x.2.2.1))),(1,some (.arr 2 (ZEy x.2.2.2))),(2,some (.arr 4 (Zbq (Zat n))))]⟩)
   (fun x=>x.1≤(Zat n).length∧x.2.2.2.length=x.1∧smallW x.2.1∧catB x.2.2.2 (ZEz x.2.1 x.2.2.1 ((Zat n).drop x.1))=ZEz w false (Zat n)) (fun x=>(Zat n).length - x.1) (0,w,false,[]) (by rw [hns];rfl) ⟨Nat.zero_le _,rfl,hw,rfl⟩ ?_
  rintro ⟨i,u,c,ks⟩ ⟨i1,i2,i3,i4⟩;simp only at i1 i2 i3 i4;have hl2:(Zat n).length≤2:=by unfold Zat;split<;>simp
  simp -implicitDefEqProofs only [go_sem,ZEf,ZaV];refine fork (fun h5=>?_) (fun h5=>?_)
  ·obtain ⟨m,hm⟩:=Z3 h5;obtain ⟨⟨m1,m2,m3⟩,k,l,hkl⟩:=ZEO hk hs m (List.mem_of_getElem? hm);have hk0:lget (strs m.Zj) 0=[.str k]:=by rw [hkl];rfl
   have hlen:1≤m.Zj.length:=by rw [hkl];simp
   have hfk:Zah m=k:=by unfold Zah;rw [hkl];rfl
   rw [ZbU hm,ZEz] at i4;simp -implicitDefEqProofs only [go_sem,ZbN hm,ZaV,ZEf];repeat ((first|refine rq ?_|fail);simp -implicitDefEqProofs only [go_sem,ZbN hm,ZaV,ZEf,hk0])
   refine ZFw u c m i3 m1 m2 m3 rfl rfl (by simp -implicitDefEqProofs only [go_sem,Z1.cells_eq];first|done|rfl) rfl ?_;simp -implicitDefEqProofs only [go_sem,ZEf];repeat ((first|refine rq ?_|fail);simp -implicitDefEqProofs only [go_sem,ZEf,ZEP])
   rw [ZV (by simp only [LEN];omega)];refine ZP (i+1,(putB u c m).1,(putB u c m).2.1,ks++[⟨k,(putB u c m).2.2⟩]) ?_ ⟨by simp only;omega,by simp;omega,ZEQ i3,?_⟩ (by simp only;omega)
   ·simp [ZEf]
   ·rw [←i4];simp [catB,List.append_assoc,hfk]
  ·have:(Zat n).drop i=[]:=List.drop_of_length_le (by omega);rw [this] at i4;have e1:(ZEz w false (Zat n)).1=u∧(ZEz w false (Zat n)).2.1=c∧(ZEz w false (Zat n)).2.2=ks:=by rw [←i4];simp [catB,ZEz]
   have hA:ZEI w n old=(bif c then u else ZbP u old,c,ks):=by unfold ZEI;rw [e1.1,e1.2.1,e1.2.2]
   rw [hA];simp -implicitDefEqProofs only [go_sem,ZEf];repeat ((first|refine rq ?_|fail);simp -implicitDefEqProofs only [go_sem,ZEf])
   refine ZFy u c old i3 rfl rfl rfl rfl ?_;simp -implicitDefEqProofs only [go_sem,ZEf];repeat ((first|refine rq ?_|fail);simp -implicitDefEqProofs only [go_sem,ZEf])
 ·have d4:decide ((4:Int)<n.Zj.length)=false:=decide_eq_false (by omega);have hns:Zat n=[n]:=by unfold Zat;rw [if_neg h4]
  simp -implicitDefEqProofs only [go_sem,ZEf,Z1.cells,d4];refine ZY (α:=Nat×ZS×Bool×List GKid) (fun x=>⟨[(0,.ref 0 0),(2,.d (.int .i64 old)),(9,.own 1 0 x.2.2.2.length),(29,.own 2 0 (Zat n).length),(30,.d (.int .i64 (Zat n).length)),(31,.d (.int .i64 x.1))],[(0,some (.box (cB x.2.1 x.2.2.1))),(1,some (.arr 2 (ZEy x.2.2.2))),(2,some (.arr 4 (Zbq (Zat n))))]⟩)
   (fun x=>x.1≤(Zat n).length∧x.2.2.2.length=x.1∧smallW x.2.1∧catB x.2.2.2 (ZEz x.2.1 x.2.2.1 ((Zat n).drop x.1))=ZEz w false (Zat n)) (fun x=>(Zat n).length - x.1) (0,w,false,[]) (by rw [hns];rfl) ⟨Nat.zero_le _,rfl,hw,rfl⟩ ?_
  rintro ⟨i,u,c,ks⟩ ⟨i1,i2,i3,i4⟩;simp only at i1 i2 i3 i4;have hl2:(Zat n).length≤2:=by unfold Zat;split<;>simp
  simp -implicitDefEqProofs only [go_sem,ZEf,ZaV];refine fork (fun h5=>?_) (fun h5=>?_)
  ·obtain ⟨m,hm⟩:=Z3 h5;obtain ⟨⟨m1,m2,m3⟩,k,l,hkl⟩:=ZEO hk hs m (List.mem_of_getElem? hm);have hk0:lget (strs m.Zj) 0=[.str k]:=by rw [hkl];rfl
   have hlen:1≤m.Zj.length:=by rw [hkl];simp
   have hfk:Zah m=k:=by unfold Zah;rw [hkl];rfl
   rw [ZbU hm,ZEz] at i4;simp -implicitDefEqProofs only [go_sem,ZbN hm,ZaV,ZEf];repeat ((first|refine rq ?_|fail);simp -implicitDefEqProofs only [go_sem,ZbN hm,ZaV,ZEf,hk0])
   refine ZFw u c m i3 m1 m2 m3 rfl rfl (by simp -implicitDefEqProofs only [go_sem,Z1.cells_eq];first|done|rfl) rfl ?_;simp -implicitDefEqProofs only [go_sem,ZEf];repeat ((first|refine rq ?_|fail);simp -implicitDefEqProofs only [go_sem,ZEf,ZEP])
   rw [ZV (by simp only [LEN];omega)];refine ZP (i+1,(putB u c m).1,(putB u c m).2.1,ks++[⟨k,(putB u c m).2.2⟩]) ?_ ⟨by simp only;omega,by simp;omega,ZEQ i3,?_⟩ (by simp only;omega)
   ·simp [ZEf]
   ·rw [←i4];simp [catB,List.append_assoc,hfk]
  ·have:(Zat n).drop i=[]:=List.drop_of_length_le (by omega);rw [this] at i4;have e1:(ZEz w false (Zat n)).1=u∧(ZEz w false (Zat n)).2.1=c∧(ZEz w false (Zat n)).2.2=ks:=by rw [←i4];simp [catB,ZEz]
   have hA:ZEI w n old=(bif c then u else ZbP u old,c,ks):=by unfold ZEI;rw [e1.1,e1.2.1,e1.2.2]
   rw [hA];simp -implicitDefEqProofs only [go_sem,ZEf];repeat ((first|refine rq ?_|fail);simp -implicitDefEqProofs only [go_sem,ZEf])
   refine ZFy u c old i3 rfl rfl rfl rfl ?_;simp -implicitDefEqProofs only [go_sem,ZEf];repeat ((first|refine rq ?_|fail);simp -implicitDefEqProofs only [go_sem,ZEf])
theorem ZES (w:ZS) (n:Z1) (old:Int) (hw:smallW w) (hq:1≤n.Zj.length∧n.Zj.length≤100) (hs:(n.Zn=true→n.ZJ.length=n.Zj.length∧n.Zk=[])∧(n.Zn=false→n.Zk.length=n.Zj.length∧n.ZJ=[])):ZQ Go.Proofs.Tryz.prog 191 [.ref 0 0,.d (.agg n.cells),.d (.int .i64 old)] [(0,.box (cB w false))] [.ref 0 0,.dead,.dead] (.d (.sl (ZEy (ZEI w n old).2.2))) [(0,.box (cB (ZEI w n old).1 (ZEI w n old).2.1))]:=by
 exact Zf4 (res':= .d (.sl (ZEy (ZEI w n old).2.2))) (ls:=[]) (ls':=[1]) (ds:=(ZEI w n old).1.cells++[.bool (ZEI w n old).2.1]) (ZER w n old hw hq hs) rfl (by simp [ZEf,toDs,toD,cD,ZS.cells]) (by simp [ZbC,toD,cD,hget,ZEL]) (by simp) rfl
theorem ZFx {h:Heap} {tb:Nat} {K:OK} {n0:Nat} {rest:List V} {ls:List Nat} (w:ZS) (n:Z1) (old:Int) (hw:smallW w) (hq:1≤n.Zj.length∧n.Zj.length≤100) (hs:(n.Zn=true→n.ZJ.length=n.Zj.length∧n.Zk=[])∧(n.Zn=false→n.Zk.length=n.Zj.length∧n.ZJ=[])) (hn:h n0=some (.box (cB w false))) (hro:refO h n0=[n0]) (hr:toDs h rest=some ([.agg n.cells,.int .i64 old],ls)) (hnl:(ls:List Nat).contains n0=false)
  (hk:K (renV (bx n0 tb [(0,.box (cB (ZEI w n old).1 (ZEI w n old).2.1))]) (.d (.sl (ZEy (ZEI w n old).2.2)))) ((bif true then (ls:List Nat).map (·,none) else [])++(n0,none)::updX n0 tb [(0,.box (cB (ZEI w n old).1 (ZEI w n old).2.1))] [(0,.box (cB (ZEI w n old).1 (ZEI w n old).2.1))])):Z2 Go.Proofs.Tryz.prog h tb 191 (.ref n0 0::rest) K:=
 Zbz true hn hro rfl hr hnl (ZES w n old hw hq hs) rfl rfl (.inl rfl) hk
def ZET (w:ZS) (page deep:Int) (key val:Key) (b:Bool) (w':ZS) (ks:List GKid) (leaf:Int):Prop:=
 ZQ Go.Proofs.Tryz.prog 124 [.ref 0 0,.d (.int .i64 page),.d (.int .i64 deep),.d (.str key),.d (.str val)] [(0,.box (cB w false))] [.ref 0 0,.dead,.dead,.dead,.dead]
  (.tup [.d (.sl (ZEy ks)),.d (.int .i64 leaf)]) [(0,.box (cB w' b))]
theorem tn1:Int.toNat 1=1:=rfl
theorem ZEU {w w':ZS} {page deep leaf:Int} {key val:Key} {b:Bool} (h:ZQ Go.Proofs.Tryz.prog 124 [.ref 0 0,.d (.int .i64 page),.d (.int .i64 deep),.d (.str key),.d (.str val)] [(0,.box (cB w false))] [.ref 0 0,.dead,.dead,.dead,.dead]
  (.tup [.own 1 0 0,.d (.int .i64 leaf)]) [(0,.box (cB w' b)),(1,.arr 2 [])]):ZET w page deep key val b w' [] leaf:=by
 unfold ZET;exact Zf4 (res':= .tup [.d (.sl []),.d (.int .i64 leaf)]) (ls:=[]) (ls':=[1]) (ds:=w'.cells++[.bool b]) h rfl (by simp [ZEf,toDs,toD,cD,ZS.cells]) (by simp [ZbC,toDs,toD,cD,hget]) (by simp) rfl
@[go_sem] def hr124:ZW:=hh [[0,1,2,3,4],[0,1,2,3,4],[0,1,2,3,4,12],[0,2],[0,2],[0,1,2,3,4,12],[0,1,2,3,4,12],[0,1,2,3,4,12],[0,1,2,3,4,12,13],[0,1,12,13,14,15],[0,15],[0,1,12,13,14,15],[0,1,13,14,15,16],[0,1,13,14,15,16],[0,1,13,14,15,16],[0,1,13,14,15,16],[0,1,13,14,15,16],[0,1,15,16]]
@[go_sem] def hl124:ZW:=hh []
attribute [go_sem] Go.Proofs.Tryz.results124
set_option maxHeartbeats 8000000 in
theorem ZFA {ours:Int→Prop} {B:List Int} (hB:B.length≤1000) (key val:Key):∀(f h:Nat) (w:ZS) (page:Int) (fk:Key) (ps:List ZR) (pg:List Int),f≤8→WOK ours B w→Tre (rdW w.Zc) h page fk ps pg→pg.Nodup→(∀q∈pg,live B w q)→
  match putU f w page key val with
  |some (w',kk,dp)=>ZET w page (9 - (f:Int)) key val false w' (kk.map Zpc) (9 - (f:Int)+dp)
  |none=>∃w' ks leaf,ZET w page (9 - (f:Int)) key val true w' ks leaf:=by
 intro f;induction f with
 |zero=>
  intro h w page fk ps pg hf hw ht hn hl;have hsw:=hw.smallW hB;have hrp:(ZU w.Zc page).length≤1048576:=by have:=Zay hw.disk page;omega
  have d8:decide ((8:Int)<9 - ((0:Nat):Int))=true:=rfl;obtain ⟨n,C,hrd,hfk,hcand,hpg⟩:=ZhK.1 ht;refine ⟨w,[],9 - ((0:Nat):Int),ZEU ?_⟩;refine cof Go.Proofs.Tryz.func124 hr124 hl124 [true,false,false,false,false] ?_;simp -implicitDefEqProofs only [go_sem,ZEf];refine ZFv w false page hsw.1 hrp rfl rfl rfl rfl ?_;rw [hrd];simp -implicitDefEqProofs only [go_sem,ZEf,ZFu,Option.isNone_some,Option.getD_some,Bool.or_false];simp -implicitDefEqProofs only [go_sem,d8,ZEf];repeat ((first|refine rq ?_|refine wl ?_|refine gl ?_|fail);simp -implicitDefEqProofs only [go_sem,d8,ZEf])
  try rfl
 |succ f ih=>
  intro h w page fk ps pg hf hw ht hn hl;have hsw:=hw.smallW hB;have hrp:(ZU w.Zc page).length≤1048576:=by have:=Zay hw.disk page;omega
  have d8:decide ((8:Int)<9 - ((f+1:Nat):Int))=false:=decide_eq_false (by omega);obtain ⟨n,C,hrd,hfk,hcand,hpg⟩:=ZhK.1 ht;have hok:=Zcx _ _ hrd;have hk4:=hok.2.1;cases h with
  |zero=>
   obtain ⟨hleaf,hps,hC⟩:=hcand;have hpu:putU (f+1) w page key val=(ZdH w (Zat (Za2 (mput (Zaq n) key val))) page).map fun r=>(r.1,r.2,0):=by
    rw [putU,hrd];simp only [hleaf,if_true]
   rw [hpu];have hml:(mput (Zaq n) key val).length≤5:=by have:=Zuy (l:=Zaq n) (key:=key) (val:=val);have:=Ze2 hok hleaf;omega
   have hmp:1≤(mput (Zaq n) key val).length:=by simp [mput];omega
   have core:ZET w page (9 - ((f+1:Nat):Int)) key val (ZEI w (Za2 (mput (Zaq n) key val)) page).2.1 (ZEI w (Za2 (mput (Zaq n) key val)) page).1 (ZEI w (Za2 (mput (Zaq n) key val)) page).2.2 (9 - ((f+1:Nat):Int)):=by
    unfold ZET;refine cof Go.Proofs.Tryz.func124 hr124 hl124 [true,false,false,false,false] ?_;simp -implicitDefEqProofs only [go_sem,ZEf];refine ZFv w false page hsw.1 hrp rfl rfl rfl rfl ?_;rw [hrd];simp -implicitDefEqProofs only [go_sem,ZEf,ZFu,Option.isNone_some,Option.getD_some,Bool.or_false];simp -implicitDefEqProofs only [go_sem,d8,hleaf];repeat ((first|refine rq ?_|refine wl ?_|refine gl ?_|fail);simp -implicitDefEqProofs only [go_sem,d8,hleaf])
    refine ZEt n key val hok hleaf (by simp -implicitDefEqProofs only [go_sem,Z1.cells_eq,hleaf];first|done|rfl) ?_;simp -implicitDefEqProofs only [go_sem,ZEf];repeat ((first|refine rq ?_|fail);simp -implicitDefEqProofs only [go_sem,ZEf])
    refine ZFx w (Za2 (mput (Zaq n) key val)) page hsw (by simp [Za2];omega) ⟨fun _=>by simp [Za2],fun h=>by simp [Za2] at h⟩ rfl rfl (by simp -implicitDefEqProofs only [go_sem,Z1.cells_eq];first|done|rfl) rfl ?_;simp -implicitDefEqProofs only [go_sem,ZEf];repeat ((first|refine rq ?_|refine wl ?_|refine gl ?_|fail);simp -implicitDefEqProofs only [go_sem,ZEf])
    try rfl
   have hA:=ZFz (w:=w) (n:=Za2 (mput (Zaq n) key val)) (old:=page);cases ha:ZdH w (Zat (Za2 (mput (Zaq n) key val))) page with
   |none=>rw [ha] at hA;simp only at hA;rw [hA] at core;exact ⟨_,_,_,core⟩
   |some r=>
    obtain ⟨w1,kk⟩:=r;rw [ha] at hA;simp only at hA;rw [hA] at core;simpa using core
  |succ h=>
   obtain ⟨hleaf,ks,h4,h5,h6,h7,h8,h9⟩:=hcand;obtain ⟨s1',s2'⟩:=ZEr hok;obtain ⟨hkl,hvl⟩:=s2' hleaf;have hpu:putU (f+1) w page key val=match putU f w (n.Zk.getD (Zij n.Zj key) 0) key val with
     |none=>none
     |some (w1,kk,dp)=>(ZdH w1 (Zat (Z0 (ZeN (n.Zj.zip n.Zk) (Zij n.Zj key) kk))) page).map fun r=>(r.1,r.2,dp+1):=by
    rw [putU,hrd];simp only [hleaf,Bool.false_eq_true,if_false];rfl
   rw [hpu];have hks:ks≠ []:=by
    have:=hok.1;rw [h4,List.length_map] at this;intro e;rw [e] at this;simp at this
   obtain ⟨pre,s,post,e1,e2,e3,e4⟩:=Zk2 (key:=key) hks;rw [←h4] at e2;have hs:s∈ks:=by rw [e1];simp
   rw [hpg,h9] at hn hl;obtain ⟨n1,n2⟩:=List.nodup_cons.1 hn;have hsp:∀q∈s.pages,q∈ks.flatMap Sub.pages:=fun q hq=>List.mem_flatMap.2 ⟨s,hs,hq⟩
   have hplen:pre.length<n.Zj.length:=by rw [h4,e1];simp
   obtain ⟨kid,hkid⟩:∃kid,n.Zk[pre.length]? =some kid:=⟨_,List.getElem?_eq_getElem (by omega)⟩;have hkd:n.Zk.getD pre.length 0=kid:=by simp [List.getD,hkid]
   have hkp:kid=s.page:=by
    have:n.Zk[pre.length]? =some s.page:=by rw [h5,e1];simp
    rw [this] at hkid;simpa using hkid.symm
   have hmax:(if (0:Int)<Zbe n.Zj key then Zbe n.Zj key else 0)=(pre.length:Int):=by
    unfold Zij at e2;rcases Zdg n.Zj key with ⟨g,_⟩|⟨a,b,c,_,g,_,_⟩
    ·rw [g] at e2 ⊢;rw [←e2];rfl
    ·rw [g] at e2 ⊢;split<;>omega
   have hih:=ih h w s.page s.fst s.pairs s.pages (by omega) hw (h6 s hs) (ZbA n2 hs) (fun q hq=>hl q (List.mem_cons_of_mem _ (hsp q hq)));rw [e2,hkd,hkp];have e8:IntKind.i64.wrap ((9:Int) - ((f+1:Nat):Int)+1)=9 - (f:Int):=by rw [Zad (by omega) (by omega)];omega
   have e8w:IntKind.i64.wrap (9 - (f:Int))=9 - (f:Int):=Zad (by omega) (by omega);cases hu:putU f w s.page key val with
   |none=>
    rw [hu] at hih;obtain ⟨w1,ks1,leaf,hih⟩:=hih;unfold ZET at hih;refine ⟨w1,[],leaf,ZEU ?_⟩;refine cof Go.Proofs.Tryz.func124 hr124 hl124 [true,false,false,false,false] ?_;simp -implicitDefEqProofs only [go_sem,ZEf];refine ZFv w false page hsw.1 hrp rfl rfl rfl rfl ?_;rw [hrd];simp -implicitDefEqProofs only [go_sem,ZEf,ZFu,Option.isNone_some,Option.getD_some,Bool.or_false];simp -implicitDefEqProofs only [go_sem,d8,hleaf];repeat ((first|refine rq ?_|refine wl ?_|refine gl ?_|fail);simp -implicitDefEqProofs only [go_sem,d8,hleaf])
    refine ZCi n key (by simp only [LEN];omega) (ls:=[]) (by simp -implicitDefEqProofs only [go_sem,Z1.cells_eq,hleaf];first|done|rfl) ?_;simp -implicitDefEqProofs only [go_sem,hmax,if_true];repeat ((first|refine rq ?_|refine wl ?_|refine gl ?_|fail);simp -implicitDefEqProofs only [go_sem,hmax,if_true,ZO hkid,e8])
    refine Za3 false (xs:=[.int .i64 s.page,.int .i64 (9 - (f:Int)),.str key,.str val]) hih rfl rfl rfl (by simp -implicitDefEqProofs only [go_sem,hkp,e8w];first|done|rfl) rfl rfl rfl rfl (.inr (.inl rfl)) ?_;simp -implicitDefEqProofs only [go_sem,ZEf]
    done
   |some r=>
    obtain ⟨w1,kk1,dp⟩:=r;rw [hu] at hih;simp only at hih ⊢;unfold ZET at hih;obtain ⟨hdp,subs1,hkk,r1⟩:=Zfp hw (h6 s hs) (ZbA n2 hs) (fun q hq=>hl q (List.mem_cons_of_mem _ (hsp q hq))) hu;obtain ⟨s1,rest,hsub,hf1,hrl⟩:=r1.head;have hsw1:=r1.ok.smallW hB;have hkk1:kk1=(s1::rest).map ZaZ:=by rw [hkk,hsub]
    have hE:ZeN (n.Zj.zip n.Zk) pre.length kk1=(pre++⟨kmin s.key s1.key,s1.page,s1.fst,s1.pairs,s1.pages⟩::(rest++post)).map ZaZ:=by
     rw [ZiN h4 h5,e1,hkk1];exact Zsf
    have hK:n.Zj=pre.map Sub.key++s.key::post.map Sub.key:=by rw [h4,e1];simp
    have hI:n.Zk=pre.map Sub.page++s.page::post.map Sub.page:=by rw [h5,e1];simp
    have hki:n.Zj[pre.length]? =some s.key:=by rw [hK];simp
    rw [hE];generalize hn':Z0 ((pre++⟨kmin s.key s1.key,s1.page,s1.fst,s1.pairs,s1.pages⟩::(rest++post)).map ZaZ)=n';have hnK:n'.Zj=pre.map Sub.key++kmin s.key s1.key::(rest.map Sub.key++post.map Sub.key):=by rw [←hn',Zfb];simp
    have hnI:n'.Zk=pre.map Sub.page++s1.page::(rest.map Sub.page++post.map Sub.page):=by rw [←hn',Zmu];simp
    have hnV:n'.ZJ=[]∧n'.Zn=false:=by rw [←hn'];exact ⟨rfl,rfl⟩
    have hkl':n.Zj.length=pre.length+post.length+1:=by rw [hK];simp;omega
    generalize hgk:kk1.map Zpc=gk at hih;have hgk2:gk=Zpc (ZaZ s1)::rest.map fun r=>Zpc (ZaZ r):=by rw [←hgk,hkk1];simp
    have hg0:lget (ZEy gk) 0=[.str s1.key,.int .i64 s1.page]:=by rw [hgk2];rfl
    have hgl:gk.length=rest.length+1:=by rw [hgk2];simp
    have hkkl:kk1.length=rest.length+1:=by rw [hkk1];simp
    have hmn:(bif !Zax s1.key s.key then s.key else s1.key)=kmin s.key s1.key:=by
     unfold kmin klt;rcases Bool.eq_false_or_eq_true (Zax s1.key s.key) with h|h<;>simp [h]
    have hKs:n.Zj.set pre.length (kmin s.key s1.key)=pre.map Sub.key++kmin s.key s1.key::post.map Sub.key:=by rw [hK];simp
    have hIs:n.Zk.set pre.length s1.page=pre.map Sub.page++s1.page::post.map Sub.page:=by rw [hI];simp
    have htk:(strs (pre.map Sub.key++kmin s.key s1.key::post.map Sub.key)).take n.Zj.length=strs (pre.map Sub.key++kmin s.key s1.key::post.map Sub.key):=List.take_of_length_le (by simp [strs];omega);have hti:(ints (pre.map Sub.page++s1.page::post.map Sub.page)).take n.Zk.length=ints (pre.map Sub.page++s1.page::post.map Sub.page):=List.take_of_length_le (by simp [ints];omega);have e1w:IntKind.i64.wrap ((pre.length:Int)+1)=((pre.length+1:Nat):Int):=ZV (by simp only [LEN];omega);have core:ZET w page (9 - ((f+1:Nat):Int)) key val (ZEI w1 n' page).2.1 (ZEI w1 n' page).1 (ZEI w1 n' page).2.2 (9 - (f:Int)+dp):=by
     unfold ZET;refine cof Go.Proofs.Tryz.func124 hr124 hl124 [true,false,false,false,false] ?_;simp -implicitDefEqProofs only [go_sem,ZEf];refine ZFv w false page hsw.1 hrp rfl rfl rfl rfl ?_;rw [hrd];simp -implicitDefEqProofs only [go_sem,ZEf,ZFu,Option.isNone_some,Option.getD_some,Bool.or_false];simp -implicitDefEqProofs only [go_sem,d8,hleaf];repeat ((first|refine rq ?_|refine wl ?_|refine gl ?_|fail);simp -implicitDefEqProofs only [go_sem,d8,hleaf])
     refine ZCi n key (by simp only [LEN];omega) (ls:=[]) (by simp -implicitDefEqProofs only [go_sem,Z1.cells_eq,hleaf];first|done|rfl) ?_;simp -implicitDefEqProofs only [go_sem,hmax,if_true];repeat ((first|refine rq ?_|refine wl ?_|refine gl ?_|fail);simp -implicitDefEqProofs only [go_sem,hmax,if_true,ZO hkid,e8])
     refine Za3 false (xs:=[.int .i64 s.page,.int .i64 (9 - (f:Int)),.str key,.str val]) hih rfl rfl rfl (by simp -implicitDefEqProofs only [go_sem,hkp,e8w];first|done|rfl) rfl rfl rfl rfl (.inr (.inl rfl)) ?_;simp -implicitDefEqProofs only [go_sem,ZEf];repeat ((first|refine rq ?_|refine wl ?_|refine gl ?_|fail);simp -implicitDefEqProofs only [go_sem,ZEf])
     refine ZEu n 0 n.Zj.length (by omega) (by omega) (fun h=>by rw [hleaf] at h;cases h) (fun _=>by omega) (by omega) (by simp -implicitDefEqProofs only [go_sem,Z1.cells_eq,hleaf];first|done|rfl) ?_;rw [ZEs s1' s2'];simp -implicitDefEqProofs only [go_sem,ZEl,ZEm,ZEf,hleaf];repeat ((first|refine rq ?_|refine wl ?_|refine gl ?_|fail);simp -implicitDefEqProofs only [go_sem,ZEl,ZEm,ZEf,hleaf,hg0,ZM hki,ZO hkid,hmn,ZfP,Zq3])
     cases rest with
     |nil=>
      have d1:decide ((1:Int)<(gk.length:Int))=false:=decide_eq_false (by rw [hgl];simp);simp -implicitDefEqProofs only [go_sem,d1,ZEf];repeat ((first|refine rq ?_|refine wl ?_|refine gl ?_|fail);simp -implicitDefEqProofs only [go_sem,d1,ZEf])
      refine ZFx w1 n' page hsw1 (by rw [hnK];simp;omega) ⟨fun h=>absurd h (by rw [hnV.2];simp),fun _=>⟨by rw [hnK,hnI];simp,hnV.1⟩⟩ rfl rfl (by simp -implicitDefEqProofs only [go_sem,Z1.cells_eq,hnK,hnI,hnV.1,hnV.2,hKs,hIs,Zq3,hvl,htk,hti,Zdz,List.map_nil,List.nil_append];first|done|rfl) rfl ?_;simp -implicitDefEqProofs only [go_sem,ZEf];repeat ((first|refine rq ?_|refine wl ?_|refine gl ?_|fail);simp -implicitDefEqProofs only [go_sem,ZEf])
      done
     |cons s2 rest2=>
      have d1:decide ((1:Int)<(gk.length:Int))=true:=decide_eq_true (by rw [hgl];simp;omega);have hkk2:gk.length=rest2.length+2:=by rw [hgl];rfl
      have hg1:lget (ZEy gk) 1=[.str s2.key,.int .i64 s2.page]:=by rw [hgk2];rfl
      simp -implicitDefEqProofs only [go_sem,d1,ZEf,tn1,hg1,e1w];repeat ((first|refine rq ?_|refine wl ?_|refine gl ?_|refine ZFt (n.Zj.set pre.length (kmin s.key s1.key)) s2.key (by simp) (by simp;omega) (by simp;omega) rfl rfl rfl ?_|refine ZEc (n.Zk.set pre.length s1.page) s2.page (by simp) (by simp;omega) (by simp;omega) rfl rfl rfl ?_|fail);simp -implicitDefEqProofs only [go_sem,d1,ZEf,tn1,hg1,e1w])
      have hr2:rest2=[]:=List.length_eq_zero_iff.1 (by simp only [List.length_cons] at hrl;omega);have hK3:(n.Zj.set pre.length (kmin s.key s1.key)).take (pre.length+1)++s2.key::(n.Zj.set pre.length (kmin s.key s1.key)).drop (pre.length+1)=n'.Zj:=by
       obtain ⟨u1,u2⟩:=ZEx (a:=pre.map Sub.key) (b:=post.map Sub.key) (x:=kmin s.key s1.key);rw [List.length_map,←hKs] at u1 u2;rw [u1,u2,hnK,hr2];simp
      have hI3:(n.Zk.set pre.length s1.page).take (pre.length+1)++s2.page::(n.Zk.set pre.length s1.page).drop (pre.length+1)=n'.Zk:=by
       obtain ⟨u1,u2⟩:=ZEx (a:=pre.map Sub.page) (b:=post.map Sub.page) (x:=s1.page);rw [List.length_map,←hIs] at u1 u2;rw [u1,u2,hnI,hr2];simp
      have hlK:n'.Zj.length=n.Zj.length+1:=by rw [hnK,hr2];simp;omega
      have hlI:n'.Zk.length=n.Zk.length+1:=by rw [hnI,hr2];simp;omega
      have htk3:(strs n'.Zj).take (n.Zj.length+1)=strs n'.Zj:=List.take_of_length_le (by rw [ZdT];omega);have hti3:(ints n'.Zk).take (n.Zk.length+1)=ints n'.Zk:=List.take_of_length_le (by rw [Za7];omega);refine ZFx w1 n' page hsw1 (by omega) ⟨fun h=>absurd h (by rw [hnV.2];simp),fun _=>⟨by omega,hnV.1⟩⟩ rfl rfl (by simp -implicitDefEqProofs only [go_sem,Z1.cells_eq,hK3,hI3,hnV.1,hnV.2,hvl,htk3,hti3,Zdz];first|done|rfl) rfl ?_;simp -implicitDefEqProofs only [go_sem,ZEf];repeat ((first|refine rq ?_|refine wl ?_|refine gl ?_|fail);simp -implicitDefEqProofs only [go_sem,ZEf])
      try rfl
    have hA:=ZFz (w:=w1) (n:=n') (old:=page);cases ha:ZdH w1 (Zat n') page with
    |none=>rw [ha] at hA;simp only at hA;rw [hA] at core;exact ⟨_,_,_,core⟩
    |some r=>
     obtain ⟨w2,kk2⟩:=r;rw [ha] at hA;simp only at hA;rw [hA] at core;have hdd:(9:Int) - (f:Int)+(dp:Int)=9 - ((f+1:Nat):Int)+((dp+1:Nat):Int):=by omega
     rw [hdd] at core;exact core
theorem fz_wk {P:Program} {f:FuncId} {args outs:List V} {w:ZS} {res:V} (hr:res=(ofW w).v) (hc:ZQ P f args [] outs res (ofW w).h) (ho:(outs.all fun x=>match x with| .dead=>true|_=>false)=true):ZQ P f args [] outs (.d (.agg w.cells)) []:=by
 subst hr;exact ZnL (ls:=[0,1,2,3,4]) hc (by simp [ZbC,toDs,toD,cD,cDs,hget,OW.v_eq,OW.h_eq,ofW,ZS.cells,Zdz,Zby,ZfJ]) ho
theorem ZEV (w:ZS) (hw:smallW w):ZQ Go.Proofs.Tryz.prog 98 [.d (.agg w.cells)] [] [.dead] (.d (.agg w.cells)) []:=fz_wk (by simp [OW.v_eq,ofW]) (ZDQ w hw) rfl
theorem ZEX {w:ZS} {key val:Key} (h:¬(24<key.length∨24<val.length)):putK w 0 key val=putN w (Za2 [⟨key,val⟩]):=by rw [putK,if_neg h,if_pos rfl]
@[go_sem] def hr54:ZW:=hh [[0,1,2,3],[1,2,3,4,8],[1,4,8],[1,2,3,4,8],[1,2,3,4,8,11],[1,2,3,4,8,11,12],[1,2,3,4,8,11],[1,2,3,4,8,11,12],[1,4,8,11,13],[1,4,8,11,12,13,14],[1,4,8,11,12,13,14],[1,4,8,11,13],[1,4,8,11,12,13,14],[1,4,8,11,12],[1,4,8,11,12],[1,4,8],[8,11,12]]
@[go_sem] def hl54:ZW:=hh []
attribute [go_sem] Go.Proofs.Tryz.results54
theorem ZEW {ours:Int→Prop} {B:List Int} {ps:List ZR} {pg:List Int} (w:ZS) (root:Int) (key val:Key) (hB:B.length≤1000) (hx:Txs ours B w root ps pg):ZQ Go.Proofs.Tryz.prog 54 [.d (.agg w.cells),.d (.int .i64 root),.d (.str key),.d (.str val)] [] [.dead,.dead,.dead,.dead] (ZyR w root key val) []:=by
 refine cofF Go.Proofs.Tryz.func54 hr54 hl54 ?_;have hsw:=hx.ok.smallW hB;unfold ZyR;have d1:decide ((24:Int)<key.length)=decide (24<key.length):=decide_eq_decide.2 (by omega);have d2:decide ((24:Int)<val.length)=decide (24<val.length):=decide_eq_decide.2 (by omega);by_cases hl:24<key.length∨24<val.length
 ·have hk:putK w root key val=none:=by rw [putK,if_pos hl]
  rw [hk];by_cases h1:24<key.length
  ·have e1:=decide_eq_true h1;simp -implicitDefEqProofs only [go_sem,ZS.cells,d1,d2,e1];repeat ((first|refine rq ?_|refine wl ?_|refine gl ?_|fail);simp -implicitDefEqProofs only [go_sem,d1,d2,e1])
   refine Zd3 (xs:=[.agg w.cells]) (ZEV w hsw) (by simp -implicitDefEqProofs only [go_sem,ZS.cells_eq];first|done|rfl) rfl ?_;simp -implicitDefEqProofs only [go_sem,ZS.cells];repeat ((first|refine rq ?_|refine wl ?_|refine gl ?_|fail);simp -implicitDefEqProofs only [go_sem,ZS.cells])
  ·have e1:=decide_eq_false h1;have e2:=decide_eq_true (hl.resolve_left h1);simp -implicitDefEqProofs only [go_sem,ZS.cells,d1,d2,e1,e2];repeat ((first|refine rq ?_|refine wl ?_|refine gl ?_|fail);simp -implicitDefEqProofs only [go_sem,d1,d2,e1,e2])
   refine Zd3 (xs:=[.agg w.cells]) (ZEV w hsw) (by simp -implicitDefEqProofs only [go_sem,ZS.cells_eq];first|done|rfl) rfl ?_;simp -implicitDefEqProofs only [go_sem,ZS.cells];repeat ((first|refine rq ?_|refine wl ?_|refine gl ?_|fail);simp -implicitDefEqProofs only [go_sem,ZS.cells])
 ·have e1:decide (24<key.length)=false:=decide_eq_false fun h=>hl (.inl h)
  have e2:decide (24<val.length)=false:=decide_eq_false fun h=>hl (.inr h)
  by_cases hr:root=0
  ·subst hr;rw [ZEX hl];have hn1:(Za2 [⟨key,val⟩]).Zj=[key]∧(Za2 [⟨key,val⟩]).ZJ=[val]∧(Za2 [⟨key,val⟩]).Zk=[]∧(Za2 [⟨key,val⟩]).Zn=true:=⟨rfl,rfl,rfl,rfl⟩;generalize Za2 [⟨key,val⟩]=n at*;obtain ⟨n1,n2,n3,n4⟩:=hn1;simp -implicitDefEqProofs only [go_sem,ZS.cells,d1,d2,e1,e2];repeat ((first|refine rq ?_|refine wl ?_|refine gl ?_|fail);simp -implicitDefEqProofs only [go_sem,d1,d2,e1,e2])
   refine Zd3 (xs:=[.agg w.cells]) (ZEV w hsw) (by simp -implicitDefEqProofs only [go_sem,ZS.cells_eq];first|done|rfl) rfl ?_;simp -implicitDefEqProofs only [go_sem,ZS.cells];repeat ((first|refine rq ?_|refine wl ?_|refine gl ?_|fail);simp -implicitDefEqProofs only [go_sem,ZS.cells])
   refine ZFw w false n hsw (by rw [n1];simp [LEN]) (by rw [n2];simp [LEN]) (by rw [n3];simp [LEN]) rfl rfl (by simp -implicitDefEqProofs only [go_sem,Z1.cells_eq,n1,n2,n3,n4,strs,ints,List.map_cons,List.map_nil];first|done|rfl) rfl ?_;cases hp:putN w n with
   |none=>
    have hB:putB w false n=(w,true,0):=by simp only [putB,hp,cond_false]
    rw [hB];simp -implicitDefEqProofs only [go_sem,ZEf];repeat ((first|refine rq ?_|refine wl ?_|refine gl ?_|fail);simp -implicitDefEqProofs only [go_sem,ZEf])
    refine Zd3 (xs:=[.agg w.cells]) (ZEV w hsw) (by simp -implicitDefEqProofs only [go_sem,ZS.cells_eq];first|done|rfl) rfl ?_;simp -implicitDefEqProofs only [go_sem,ZS.cells];repeat ((first|refine rq ?_|refine wl ?_|refine gl ?_|fail);simp -implicitDefEqProofs only [go_sem,ZS.cells])
    try rfl
   |some r=>
    obtain ⟨w1,p⟩:=r;have hB:putB w false n=(w1,false,p):=by simp only [putB,hp,cond_false]
    rw [hB];simp -implicitDefEqProofs only [go_sem,ZEf];repeat ((first|refine rq ?_|refine wl ?_|refine gl ?_|fail);simp -implicitDefEqProofs only [go_sem,ZEf])
    try rfl
  ·have dr:=decide_eq_false hr;simp -implicitDefEqProofs only [go_sem,ZS.cells,d1,d2,e1,e2];repeat ((first|refine rq ?_|refine wl ?_|refine gl ?_|fail);simp -implicitDefEqProofs only [go_sem,d1,d2,e1,e2])
   refine Zd3 (xs:=[.agg w.cells]) (ZEV w hsw) (by simp -implicitDefEqProofs only [go_sem,ZS.cells_eq];first|done|rfl) rfl ?_;simp -implicitDefEqProofs only [go_sem,ZS.cells,dr];repeat ((first|refine rq ?_|refine wl ?_|refine gl ?_|fail);simp -implicitDefEqProofs only [go_sem,ZS.cells,dr])
   obtain ⟨h,fk,h8,ht,hn,hl8⟩:∃h fk,h<8∧Tre (rdW w.Zc) h root fk ps pg∧pg.Nodup∧∀q∈pg,live B w q:=by
    rcases hx.tree with ⟨h0,_⟩|⟨_,hn,h,f,h8,ht⟩
    ·exact absurd h0 hr
    ·exact ⟨h,f,h8,ht,hn,fun q hq=>(hx.now q).2 hq⟩
   have hU:=ZFA hB key val 8 h w root fk ps pg (by omega) hx.ok ht hn hl8;have hK:putK w root key val=match putU 8 w root key val with
    |none=>none
    |some (w1,kk,dp)=>match kk with
     |[]=>none
     |[k]=>some (w1,k.2)
     |k1::k2::_=>if 7≤dp then none else putN w1 (Z0 [k1,k2]):=by rw [putK,if_neg hl,if_neg hr];rfl
   rw [hK];cases hu:putU 8 w root key val with
   |none=>
    rw [hu] at hU;obtain ⟨w1,ks1,leaf,hU⟩:=hU;unfold ZET at hU;refine Za3 false (xs:=[.int .i64 root,.int .i64 1,.str key,.str val]) hU rfl rfl rfl (by simp -implicitDefEqProofs only [go_sem];first|done|rfl) rfl rfl rfl rfl (.inr (.inl rfl)) ?_;simp -implicitDefEqProofs only [go_sem,ZEf];repeat ((first|refine rq ?_|refine wl ?_|refine gl ?_|fail);simp -implicitDefEqProofs only [go_sem,ZEf])
    refine Zd3 (xs:=[.agg w.cells]) (ZEV w hsw) (by simp -implicitDefEqProofs only [go_sem,ZS.cells_eq];first|done|rfl) rfl ?_;simp -implicitDefEqProofs only [go_sem,ZS.cells];repeat ((first|refine rq ?_|refine wl ?_|refine gl ?_|fail);simp -implicitDefEqProofs only [go_sem,ZS.cells])
    try rfl
   |some r=>
    obtain ⟨w1,kk,dp⟩:=r;rw [hu] at hU;simp only at hU;unfold ZET at hU;obtain ⟨hdp,subs1,hkk,r1⟩:=Zfp hx.ok ht hn hl8 hu;obtain ⟨s1,rest,hsub,hf1,hrl⟩:=r1.head;have hsw1:=r1.ok.smallW hB;have hkk1:kk=(s1.key,s1.page)::rest.map ZaZ:=by rw [hkk,hsub];rfl
    generalize hgk:kk.map Zpc=gk at hU;have hgk2:gk=Zpc (s1.key,s1.page)::rest.map fun r=>Zpc (ZaZ r):=by rw [←hgk,hkk1];simp
    have hg0:lget (ZEy gk) 0=[.str s1.key,.int .i64 s1.page]:=by rw [hgk2];rfl
    have hgl:gk.length=rest.length+1:=by rw [hgk2];simp
    refine Za3 false (xs:=[.int .i64 root,.int .i64 1,.str key,.str val]) hU rfl rfl rfl (by simp -implicitDefEqProofs only [go_sem];first|done|rfl) rfl rfl rfl rfl (.inr (.inl rfl)) ?_;simp -implicitDefEqProofs only [go_sem,ZEf];rw [hkk1];simp only;cases rest with
    |nil=>
     have dl:decide ((gk.length:Int)=1)=true:=decide_eq_true (by rw [hgl];rfl);simp only [List.map_nil];simp -implicitDefEqProofs only [go_sem,ZEf,dl,hg0];repeat ((first|refine rq ?_|refine wl ?_|refine gl ?_|fail);simp -implicitDefEqProofs only [go_sem,ZEf,dl,hg0])
     try rfl
    |cons s2 rest2=>
     have hgl2:gk.length=rest2.length+2:=by rw [hgl];rfl
     have dl:decide ((gk.length:Int)=1)=false:=decide_eq_false (by omega);have hg1:lget (ZEy gk) 1=[.str s2.key,.int .i64 s2.page]:=by rw [hgk2];rfl
     simp only [List.map_cons];by_cases h7:7≤dp
     ·have d7:decide ((8:Int)≤9 - ((8:Nat):Int)+(dp:Int))=true:=decide_eq_true (by omega);rw [if_pos h7];simp -implicitDefEqProofs only [go_sem,ZEf,dl,d7];repeat ((first|refine rq ?_|refine wl ?_|refine gl ?_|fail);simp -implicitDefEqProofs only [go_sem,ZEf,dl,d7])
      refine Zd3 (xs:=[.agg w.cells]) (ZEV w hsw) (by simp -implicitDefEqProofs only [go_sem,ZS.cells_eq];first|done|rfl) rfl ?_;simp -implicitDefEqProofs only [go_sem,ZS.cells];repeat ((first|refine rq ?_|refine wl ?_|refine gl ?_|fail);simp -implicitDefEqProofs only [go_sem,ZS.cells])
      try rfl
     ·have d7:decide ((8:Int)≤9 - ((8:Nat):Int)+(dp:Int))=false:=decide_eq_false (by omega);rw [if_neg h7];have hn1:(Z0 [(s1.key,s1.page),ZaZ s2]).Zj=[s1.key,s2.key]∧(Z0 [(s1.key,s1.page),ZaZ s2]).ZJ=[]∧(Z0 [(s1.key,s1.page),ZaZ s2]).Zk=[s1.page,s2.page]∧(Z0 [(s1.key,s1.page),ZaZ s2]).Zn=false:=⟨rfl,rfl,rfl,rfl⟩;generalize Z0 [(s1.key,s1.page),ZaZ s2]=n at*;obtain ⟨n1,n2,n3,n4⟩:=hn1;simp -implicitDefEqProofs only [go_sem,ZEf,dl,d7,tn1,hg0,hg1];repeat ((first|refine rq ?_|refine wl ?_|refine gl ?_|fail);simp -implicitDefEqProofs only [go_sem,ZEf,dl,d7,tn1,hg0,hg1])
      refine ZFw w1 false n hsw1 (by rw [n1];simp [LEN]) (by rw [n2];simp [LEN]) (by rw [n3];simp [LEN]) rfl rfl (by simp -implicitDefEqProofs only [go_sem,Z1.cells_eq,n1,n2,n3,n4,strs,ints,List.map_cons,List.map_nil];first|done|rfl) rfl ?_;cases hp:putN w1 n with
      |none=>
       have hB:putB w1 false n=(w1,true,0):=by simp only [putB,hp,cond_false]
       rw [hB];simp -implicitDefEqProofs only [go_sem,ZEf];repeat ((first|refine rq ?_|refine wl ?_|refine gl ?_|fail);simp -implicitDefEqProofs only [go_sem,ZEf])
       refine Zd3 (xs:=[.agg w.cells]) (ZEV w hsw) (by simp -implicitDefEqProofs only [go_sem,ZS.cells_eq];first|done|rfl) rfl ?_;simp -implicitDefEqProofs only [go_sem,ZS.cells];repeat ((first|refine rq ?_|refine wl ?_|refine gl ?_|fail);simp -implicitDefEqProofs only [go_sem,ZS.cells])
       try rfl
      |some r=>
       obtain ⟨w2,p⟩:=r;have hB:putB w1 false n=(w2,false,p):=by simp only [putB,hp,cond_false]
       rw [hB];simp -implicitDefEqProofs only [go_sem,ZEf];repeat ((first|refine rq ?_|refine wl ?_|refine gl ?_|fail);simp -implicitDefEqProofs only [go_sem,ZEf])
       try rfl
def ki_PutKey {ours:Int→Prop} {B:List Int} {ps:List ZR} {pg:List Int} (w:ZS) (root:Int) (key val:Key) (hB:B.length≤1000) (hx:Txs ours B w root ps pg):=kf (ZEW w root key val hB hx)
end Go.Rx
