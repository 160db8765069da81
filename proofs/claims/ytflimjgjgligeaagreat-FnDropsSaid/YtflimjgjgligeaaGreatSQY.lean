/-
  Part QY: lemmas on an evaluator over plain data of the model's code, plain laws on lists and numbers, or contracts of functions of the program; each lemma names its conditions.
-/
import Derived.Test.YtflimjgjgligeaaGreatSA1
import Derived.Test.YtflimjgjgligeaaGreatSA4
import Derived.Test.YtflimjgjgligeaaGreatSA5
import Derived.Test.YtflimjgjgligeaaGreatSA6
import Derived.Test.YtflimjgjgligeaaGreatSB1
import Derived.Test.YtflimjgjgligeaaGreatSE1
import Derived.Test.YtflimjgjgligeaaGreatSE2
import Derived.Test.YtflimjgjgligeaaGreatSE3
import Derived.Test.YtflimjgjgligeaaGreatSE4
import Derived.Test.YtflimjgjgligeaaGreatSE6
import Derived.Test.YtflimjgjgligeaaGreatSIns
import Derived.Test.YtflimjgjgligeaaGreatSKI
import Derived.Test.YtflimjgjgligeaaGreatSKJ
import Derived.Test.YtflimjgjgligeaaGreatSNA
import Derived.Test.YtflimjgjgligeaaGreatSP1
import Derived.Test.YtflimjgjgligeaaGreatSP2
import Derived.Test.YtflimjgjgligeaaGreatSP3
import Derived.Test.YtflimjgjgligeaaGreatSR0
import Derived.Test.YtflimjgjgligeaaGreatSSort
import Derived.Test.YtflimjgjgligeaaGreatSTryzShelfP

set_option linter.unusedSimpArgs false
set_option linter.unusedVariables false
set_option maxRecDepth 100000
set_option maxHeartbeats 16000000
set_option linter.defProp false
namespace Go.Rx
open Go Go.RowKit
theorem ZBE {n:Nat} {o:AObj} (h:ZkM o):ZhJ [(n,o)]:=fun p hp=>by simp at hp;subst hp;exact h
section
variable {P:Program} {h:Heap} {tb:Nat} {f:FuncId} {args:List V} {K:OK} {xs:List D} {ls:List Nat} {res:V} {H':List (Nat×AObj)}
theorem ZBG {n off len k off' len':Nat} (xs:List D):ZbL (.own n off len::xs.map Arg.dat) (.own k off' len'::xs.map fun _=>V.dead)=fun j=>bif k==j then some n else none:=by
 funext j;simp only [ZbL];rw [Zf8]
theorem ZBC {n off len m:Nat} {ys:List (List D)} {rest:List V} (hn:h n=some (.arr m ys)) (hr:toDs h rest=some (xs,ls)):
  ZbT h [true] (.own n off len::rest)=some (.own n off len::xs.map .dat,[n],ls):=by
 simp only [ZbT,List.drop_succ_cons,List.drop_nil,Zcm hr,List.headD_cons,Zb8,hn]
theorem ZBF {n off len m:Nat} {ys ys':List (List D)} {rest:List V} {r:V} (hn:h n=some (.arr m ys)) (hr:toDs h rest=some (xs,ls)) (hnl:ls.contains n=false)
  (hc:ZQ P f (.own 0 off len::xs.map .d) [(0,.arr m ys)] (.own 0 off len::xs.map fun _=> .dead) r [(0,.arr m ys')]) (hl:ys.length=ys'.length) (hfl:ZcQ r) (hfo:ZkM (.arr m ys'))
  (hk:K (renV (fun j=>bif 0==j then some n else none) r) [(n,none),(n,some (.arr m ys'))]):Z2 P h tb f (.own n off len::rest) K:=by
 have hidx:idx [n] n=some 0:=by simp [idx]
 have hb:back tb (.own n off len::xs.map Arg.dat) (.own 0 off len::xs.map fun _=>V.dead) [(0,.arr m ys')]=fun j=>bif 0==j then some n else none:=by
  funext j;unfold back;rw [ZBG];cases j with
  |zero=>rfl
  |succ j=>rfl
 refine ⟨[],[true],_,_,_,.own 0 off len::xs.map fun _=> .dead,r,[(0,.arr m ys')],ZBC hn hr,?_,?_,?_,?_,.inl ⟨.inr ⟨hfl,ZBE hfo⟩,?_⟩⟩
 ·simp only [List.filterMap_cons,Arg.name?,Zft,nodup,List.all_cons,List.all_nil,hnl];simp
 ·have e1:(xs.map Arg.dat).map (argV [n])=xs.map .d:=by rw [List.map_map];rfl
  simp only [List.map_cons,e1,argV,renC,hidx,objs,hn,renO];exact hc
 ·simp only [Zaw,hget,Zza,ZdZ,ZcC];simp [nodup]
 ·refine ⟨?_,ZeH xs⟩;simp [Zt6,hn,hget,hl]
 ·rw [Zga,hb];simpa [renO] using hk
end
section
variable {w:World} {ok:Nat→Prop} {lam:Nat→Option Nat} {h:Heap}
end
end Go.Rx

namespace Go.Rx
open Go
theorem ZEg {w w':ZS} {n:Z1} {p:Int} (h:putN w n=some (w',p)):(putO w n).1.work=w'∧(putO w n).2=p:=by
 have hg:=ZDW (w:=w);rw [putO,h];simp only [and_true];unfold putN at h;split at h
 ·split at h
  ·cases h
  ·split at h
   ·cases h
   ·rename_i d hd;simp only [Option.some.injEq,Prod.mk.injEq] at h;obtain ⟨rfl,rfl⟩:=h;unfold Zak at hd;split at hd
    ·obtain rfl:=Option.some.inj hd;rw [←hg];rfl
    ·cases hd
 ·cases h
end Go.Rx

namespace Go.Rx
open Go
attribute [local irreducible] Req Way WayG Sel Z2 ZQ Zaz cVC Zai ZaO
theorem ZD9 {l:List Int}:∀e∈ints l,∀d∈e,d.one=true:=fun c hc d hd=>by simp only [ints,List.mem_map] at hc;obtain ⟨_,_,rfl⟩:=hc;simp at hd;subst hd;rfl
theorem ZD8 {l:List Key}:∀e∈strs l,∀d∈e,d.one=true:=fun c hc d hd=>by simp only [strs,List.mem_map] at hc;obtain ⟨_,_,rfl⟩:=hc;simp at hd;subst hd;rfl
theorem ZEc {h:Heap} {tb n k i m:Nat} {K:OK} (l:List Int) (x:Int) (hm:m=l.length) (hi:i≤l.length) (hl:l.length≤1048576) (hn:h n=some (.arr 1 (ints l))) (hk:h k=some (.arr 1 [[.int .i64 x]])) (hne:(n==k)=false)
  (hK:K (.own tb 0 (m+1)) [(n,none),(k,none),(tb,some (.arr 1 (ints (l.take i++x::l.drop i))))]):Z2 Go.Proofs.Tryz.prog h tb 195 [.own n 0 m,.d (.int .i64 i),.own k 0 1] K:=by
 subst hm;have hc:=ZDI (ins_int Go.Proofs.Tryz.lays2_21) ⟨_,Go.Proofs.Tryz.func195,by kernel_rfl,by kernel_rfl⟩ (ints l) [.int .i64 x] i (by rw [Za7];exact hi) (by rw [Za7];exact hl) ZD9 (fun d hd=>by simp at hd;subst hd;rfl);have he:(ints l).take i++[D.int .i64 x]::(ints l).drop i=ints (l.take i++x::l.drop i):=by simp [ints,List.map_take,List.map_drop]
 rw [he] at hc;have:=ZDK (tb:=tb) (K:=K) hn hk hne hc (by rw [Za7];exact hK)
 rwa [Za7] at this
theorem ZFt {h:Heap} {tb n k i m:Nat} {K:OK} (l:List Key) (x:Key) (hm:m=l.length) (hi:i≤l.length) (hl:l.length≤1048576) (hn:h n=some (.arr 1 (strs l))) (hk:h k=some (.arr 1 [[.str x]])) (hne:(n==k)=false)
  (hK:K (.own tb 0 (m+1)) [(n,none),(k,none),(tb,some (.arr 1 (strs (l.take i++x::l.drop i))))]):Z2 Go.Proofs.Tryz.prog h tb 194 [.own n 0 m,.d (.int .i64 i),.own k 0 1] K:=by
 subst hm;have hc:=ZDI (ins_str Go.Proofs.Tryz.lays2_22) ⟨_,Go.Proofs.Tryz.func194,by kernel_rfl,by kernel_rfl⟩ (strs l) [.str x] i (by rw [ZdT];exact hi) (by rw [ZdT];exact hl) ZD8 (fun d hd=>by simp at hd;subst hd;rfl);have he:(strs l).take i++[D.str x]::(strs l).drop i=strs (l.take i++x::l.drop i):=by simp [strs,List.map_take,List.map_drop]
 rw [he] at hc;have:=ZDK (tb:=tb) (K:=K) hn hk hne hc (by rw [ZdT];exact hK)
 rwa [ZdT] at this
theorem str_of {w:World} {ok:Nat→Prop} {s:List UInt8} {c:Value} (h:DRel w ok (.str s) c):c= .string ⟨⟨s⟩⟩:=by cases h;rfl
theorem km_Del1Int {h:Heap} {tb n i m:Nat} {K:OK} (l:List Int) (hm:m=l.length) (hi:i<l.length) (hl:l.length≤1048576) (hn:h n=some (.arr 1 (ints l)))
  (hK:K (.own tb 0 (m - 1)) [(n,none),(tb,some (.arr 1 (ints (l.take i++l.drop (i+1)))))]):Z2 Go.Proofs.Tryz.prog h tb 240 [.own n 0 m,.d (.int .i64 i),.d (.int .i64 (i+1:Nat))] K:=by
 subst hm;exact ZDL hn (ZDJ (c:=fun x=> .int .i64 x) (del_int Go.Proofs.Tryz.lays2_23) ⟨_,Go.Proofs.Tryz.func240,by kernel_rfl,by kernel_rfl⟩ (fun _ _ _ _ h=>int_of h) l i hi hl) hK
theorem km_Del1Str {h:Heap} {tb n i m:Nat} {K:OK} (l:List Key) (hm:m=l.length) (hi:i<l.length) (hl:l.length≤1048576) (hn:h n=some (.arr 1 (strs l)))
  (hK:K (.own tb 0 (m - 1)) [(n,none),(tb,some (.arr 1 (strs (l.take i++l.drop (i+1)))))]):Z2 Go.Proofs.Tryz.prog h tb 239 [.own n 0 m,.d (.int .i64 i),.d (.int .i64 (i+1:Nat))] K:=by
 subst hm;exact ZDL hn (ZDJ (c:=fun x=> .str x) (del_str Go.Proofs.Tryz.lays2_24) ⟨_,Go.Proofs.Tryz.func239,by kernel_rfl,by kernel_rfl⟩ (fun _ _ _ _ h=>str_of h) l i hi hl) hK
theorem ZEd {l:List Int} {p:Int} {i:Nat} (h1:∀q∈l.take i,q<p) (h2:∀q,l[i]? =some q→¬q<p) (hi:i≤l.length):Zpf l p=l.take i++p::l.drop i:=by
 have hd:(l.drop i).takeWhile (fun q=>decide (q<p))=[]∧(l.drop i).dropWhile (fun q=>decide (q<p))=l.drop i:=by
  cases hx:l.drop i with
  |nil=>exact ⟨rfl,rfl⟩
  |cons q m=>
   have:=h2 q (by have:=congrArg (·[0]?) hx;simpa using this);simp [List.takeWhile_cons,List.dropWhile_cons,this]
 have ht:∀m:List Int,(∀q∈m,q<p)→∀r:List Int,(m++r).takeWhile (fun q=>decide (q<p))=m++r.takeWhile (fun q=>decide (q<p))∧(m++r).dropWhile (fun q=>decide (q<p))=r.dropWhile (fun q=>decide (q<p)):=by
  intro m;induction m with
  |nil=>intro _ r;exact ⟨rfl,rfl⟩
  |cons a m ih=>
   intro hm r;have ha:=hm a (by simp);obtain ⟨e1,e2⟩:=ih (fun q hq=>hm q (by simp [hq])) r;simp [List.takeWhile_cons,List.dropWhile_cons,ha,e1,e2]
 obtain ⟨e1,e2⟩:=ht (l.take i) h1 (l.drop i);rw [List.take_append_drop] at e1 e2;rw [Zpf,e1,e2,hd.1,hd.2,List.append_nil]
@[go_sem] def hr242:ZW:=hh [[0,1],[0,1]]
@[go_sem] def hl242:ZW:=hh []
attribute [go_sem] Go.Proofs.Tryz.results242
theorem ZEb (q p:Int):ZQ Go.Proofs.Tryz.prog 242 [.d (.int .i64 q),.d (.ptr [.int .i64 p])] [] [.dead,.dead] (.d (.bool (decide (q=p)))) []:=by
 refine cof Go.Proofs.Tryz.func242 hr242 hl242 [false,false] ?_;simp -implicitDefEqProofs only [go_sem];repeat ((first|refine rq ?_|refine wl ?_|refine gl ?_|fail);simp -implicitDefEqProofs only [go_sem])
 try rfl
def ki_dp1 (q p:Int):=kf (ZEb q p)
@[go_sem] def hr199:ZW:=hh [[0,1],[2,3,4],[2,3,4,5],[3,4,5],[4,5],[2,3,4,5],[2,3,4,5],[2,3,4,5,6],[2,3,4,5,6],[3,4,5,6],[4,5]]
@[go_sem] def hl199:ZW:=hh [[],[],[],[],[],[],[],[2,3,4,5,6]]
attribute [go_sem] Go.Proofs.Tryz.results199
theorem ZD7 (w:ZS) (p:Int) (hw:smallW w):ZQ Go.Proofs.Tryz.prog 199 [.d (.agg w.cells),.d (.int .i64 p)] [] [.dead,.dead] (.d (.agg (ZbP w p).cells)) []:=by
 refine cofF Go.Proofs.Tryz.func199 hr199 hl199 ?_;have hw':=hw;obtain ⟨⟨h1,h2⟩,h3,h4,h5⟩:=hw';simp -implicitDefEqProofs only [go_sem,ZS.cells];refine ZDN w hw (by simp -implicitDefEqProofs only [go_sem,ZS.cells_eq];first|done|rfl) ?_;simp -implicitDefEqProofs only [go_sem];repeat ((first|refine rq ?_|fail);simp -implicitDefEqProofs only [go_sem])
 refine ZAb w.Zf p (by simp only [LEN];omega) (by simp -implicitDefEqProofs only [go_sem];first|done|rfl) ?_;unfold ZbP;by_cases hf:p∈w.Zf
 ·have df:=decide_eq_true hf;rw [if_pos hf];simp -implicitDefEqProofs only [go_sem,df];repeat ((first|refine rq ?_|refine wl ?_|refine gl ?_|fail);simp -implicitDefEqProofs only [go_sem,df])
  refine ZBF (n:=13) (ls:=[1]) (xs:=[.clo 242 [.ptr [.int .i64 p]]]) rfl rfl rfl (ci_DelInt w.Zf _ [.ptr [.int .i64 p]] (fun q=>decide (q=p)) (by omega) fun q _=>ZEb q p) (by rw [Za7,Za7,ZCL]) (.own _ _ _) Zhu ?_;simp -implicitDefEqProofs only [go_sem];repeat ((first|refine rq ?_|refine wl ?_|refine gl ?_|fail);simp -implicitDefEqProofs only [go_sem])
  refine ZY (α:=Nat) (fun i=>⟨[(2,.ref 0 0),(3,.ref 1 0),(4,.ref 2 0),(5,.ref 8 0),(6,.d (.int .i64 i))],[(0,some (.box [.d (.sl (strs w.Zc.Zv)),.d (.sl (Zae w.Zc.Zm)),.d (.int .i64 w.Zs),.d (.sl (ints w.ZH)),.d (.sl (ints w.Zg)),.d (.sl (ints w.Zf))])),(1,some (.box [.d (.int .i64 p)])),(2,some (.box [.own 3 0 0,.own 4 0 0,.d (.int .i64 0),.own 5 0 0,.own 6 0 0,.own 7 0 0])),(3,some (.arr 1 [])),(4,some (.arr 2 [])),(5,some (.arr 1 [])),(6,some (.arr 1 [])),(7,some (.arr 1 [])),(8,some (.box [.own 9 0 w.Zc.Zv.length,.own 10 0 w.Zc.Zm.length,.d (.int .i64 w.Zs),.own 11 0 w.ZH.length,.own 12 0 w.Zg.length,.own 13 0 (w.Zf.filter fun x=> !decide (x=p)).length])),(9,some (.arr 1 (strs w.Zc.Zv))),(10,some (.arr 2 (Zae w.Zc.Zm))),(11,some (.arr 1 (ints w.ZH))),(12,some (.arr 1 (ints w.Zg))),(13,some (.arr 1 (ints ((w.Zf.filter fun x=> !decide (x=p))++List.replicate (w.Zf.length - (w.Zf.filter fun x=> !decide (x=p)).length) 0))))]⟩)
   (fun i=>i≤w.ZH.length∧∀q∈w.ZH.take i,q<p) (fun i=>w.ZH.length - i) 0 rfl ⟨Nat.zero_le _,by simp⟩ ?_
  rintro i ⟨i1,i2⟩;have htk:(ints ((w.Zf.filter fun x=> !decide (x=p))++List.replicate (w.Zf.length - (w.Zf.filter fun x=> !decide (x=p)).length) 0)).take (w.Zf.filter fun x=> !decide (x=p)).length=ints (w.Zf.filter fun x=> !decide (x=p)):=ZCJ;simp -implicitDefEqProofs only [go_sem];have hti:(ints (w.ZH.take i++p::w.ZH.drop i)).take (w.ZH.length+1)=ints (w.ZH.take i++p::w.ZH.drop i):=List.take_of_length_le (by simp [ints];omega);by_cases h5:(i:Int)<w.ZH.length
  ·have d5:=decide_eq_true h5;obtain ⟨q,hq⟩:=Z3 h5;by_cases hqp:q<p
   ·have dq:=decide_eq_true hqp;simp -implicitDefEqProofs only [go_sem,d5,ZO hq,dq];repeat ((first|refine rq ?_|refine wl ?_|refine gl ?_|fail);simp -implicitDefEqProofs only [go_sem,d5,ZO hq,dq])
    rw [ZV (by simp only [LEN];omega)];refine ZP (i+1) rfl ⟨by omega,fun r hr=>?_⟩ (by omega);rw [Z7 hq] at hr;rcases List.mem_append.1 hr with hr|hr
    ·exact i2 r hr
    ·simp at hr;subst hr;exact hqp
   ·have dq:=decide_eq_false hqp;rw [ZEd i2 (fun r hr=>by rw [hq] at hr;cases hr;exact hqp) i1];simp -implicitDefEqProofs only [go_sem,d5,ZO hq,dq,htk,hti];repeat ((first|refine rq ?_|refine wl ?_|refine gl ?_|refine ZEc w.ZH p rfl (by omega) (by omega) rfl rfl rfl ?_|fail);simp -implicitDefEqProofs only [go_sem,d5,ZO hq,dq,htk,hti])
    try rfl
  ·have d5:=decide_eq_false h5;rw [ZEd i2 (fun r hr=>by have:=(List.getElem?_eq_some_iff.1 hr).1;omega) i1];simp -implicitDefEqProofs only [go_sem,d5,htk,hti];repeat ((first|refine rq ?_|refine wl ?_|refine gl ?_|refine ZEc w.ZH p rfl (by omega) (by omega) rfl rfl rfl ?_|fail);simp -implicitDefEqProofs only [go_sem,d5,htk,hti])
   try rfl
 ·have df:=decide_eq_false hf;rw [if_neg hf];simp -implicitDefEqProofs only [go_sem,df];repeat ((first|refine rq ?_|refine wl ?_|refine gl ?_|fail);simp -implicitDefEqProofs only [go_sem,df])
  try rfl
def ZEa (w:ZS) (p:Int) (hw:smallW w):=kf (ZD7 w p hw)
def cB (w:ZS) (b:Bool):List V:=[.d (.sl (strs w.Zc.Zv)),.d (.sl (Zae w.Zc.Zm)),.d (.int .i64 w.Zs),.d (.sl (ints w.ZH)),.d (.sl (ints w.Zg)),.d (.sl (ints w.Zf)),.d (.bool b)]
theorem ZEf {w:ZS} {b:Bool}:cB w b=[.d (.sl (strs w.Zc.Zv)),.d (.sl (Zae w.Zc.Zm)),.d (.int .i64 w.Zs),.d (.sl (ints w.ZH)),.d (.sl (ints w.Zg)),.d (.sl (ints w.Zf)),.d (.bool b)]:=rfl
theorem fz_owp {P:Program} {f:FuncId} {args outs:List V} {o:OW} {y:D} (hc:ZQ P f args [] outs (.tup [o.v,.d y]) o.h) (ho:(outs.all fun x=>match x with| .dead=>true|_=>false)=true):ZQ P f args [] outs (.tup [.d (.agg o.work.cells),.d y]) []:=
 ZnL (ls:=[0,1,2,3,4]) hc (by simp [ZbC,toDs,toD,cD,cDs,hget,OW.v_eq,OW.h_eq,OW.work,ZS.cells,Zdz,Zby,ZfJ,ZuZ]) ho
theorem putO_W {w:ZS} {n:Z1}:((putO w n).1.work,(putO w n).2)=putW w n:=by
 unfold putW;cases hp:putN w n with
 |none=>simp [putO,hp,ZD2]
 |some q=>obtain ⟨w',p⟩:=q;exact Prod.ext (ZEg hp).1 (ZEg hp).2
theorem ZEe (w:ZS) (n:Z1) (hw:smallW w) (h1:n.Zj.length≤LEN) (h2:n.ZJ.length≤LEN) (h3:n.Zk.length≤LEN):ZQ Go.Proofs.Tryz.prog 40 [.d (.agg w.cells),.d (.agg n.cells)] [] [.dead,.dead] (.tup [.d (.agg (putW w n).1.cells),.d (.int .i64 (putW w n).2)]) []:=by
 have h:=fz_owp (ci_PutNode w n hw h1 h2 h3) rfl;rw [←putO_W];exact h
def nodV (n:Z1):V:= .agg [.d (.bool n.Zn),.d (.sl (strs n.Zj)),.d (.sl (strs n.ZJ)),.d (.sl (ints n.Zk))]
theorem ZFu {n:Z1}:nodV n= .agg [.d (.bool n.Zn),.d (.sl (strs n.Zj)),.d (.sl (strs n.ZJ)),.d (.sl (ints n.Zk))]:=rfl
@[go_sem] def hr128:ZW:=hh [[0,1],[0,1,4],[0,4,5,6],[0,4,5],[0,4,5]]
@[go_sem] def hl128:ZW:=hh []
attribute [go_sem] Go.Proofs.Tryz.results128
theorem ZEi (w:ZS) (b:Bool) (page:Int) (hd:Zck w.Zc) (hp:(ZU w.Zc page).length≤1048576):ZQ Go.Proofs.Tryz.prog 128 [.ref 0 0,.d (.int .i64 page)] [(0,.box (cB w b))] [.ref 0 0,.dead] (nodV ((rdW w.Zc page).getD Z1.zero)) [(0,.box (cB w (b.or (rdW w.Zc page).isNone)))]:=by
 refine cof Go.Proofs.Tryz.func128 hr128 hl128 [true,false] ?_;simp -implicitDefEqProofs only [go_sem,ZEf];refine Zz9 w.Zc page (by have:=hd.1;omega) (by have:=hd.2;omega) rfl ?_;simp -implicitDefEqProofs only [go_sem];refine ZAa (ZU w.Zc page) (by omega) rfl ?_;unfold rdW;cases ZaH (ZU w.Zc page) with
 |none=>
  simp only [ZfW,Option.getD_none,Option.isNone_none,Bool.or_true,Bool.or_false];simp -implicitDefEqProofs only [go_sem,ZEf];repeat ((first|refine rq ?_|refine wl ?_|refine gl ?_|fail);simp -implicitDefEqProofs only [go_sem,ZEf])
  try rfl
 |some n=>
  simp only [ZaE,Option.getD_some,Option.isNone_some,Bool.or_false];simp -implicitDefEqProofs only [go_sem,ZEf];repeat ((first|refine rq ?_|refine wl ?_|refine gl ?_|fail);simp -implicitDefEqProofs only [go_sem,ZEf])
  try rfl
theorem ZFv {h:Heap} {tb:Nat} {K:OK} {n0:Nat} {rest:List V} (w:ZS) (b:Bool) (page:Int) (hd:Zck w.Zc) (hp:(ZU w.Zc page).length≤1048576) (hn:h n0=some (.box (cB w b))) (hro:refO h n0=[n0]) (hr:toDs h rest=some ([.int .i64 page],[])) (hnl:([]:List Nat).contains n0=false)
  (hk:K (renV (bx n0 tb [(0,.box (cB w (b.or (rdW w.Zc page).isNone)))]) (nodV ((rdW w.Zc page).getD Z1.zero))) ((bif false then ([]:List Nat).map (·,none) else [])++(n0,none)::updX n0 tb [(0,.box (cB w (b.or (rdW w.Zc page).isNone)))] [(0,.box (cB w (b.or (rdW w.Zc page).isNone)))])):Z2 Go.Proofs.Tryz.prog h tb 128 (.ref n0 0::rest) K:=
 Zbz false hn hro rfl hr hnl (ZEi w b page hd hp) rfl rfl (.inr (.inl rfl)) hk
def putB (w:ZS) (b:Bool) (n:Z1):ZS×Bool×Int:=bif b then (w,true,0) else match putN w n with
 |none=>(w,true,0)
 |some r=>(r.1,false,r.2)
@[go_sem] def hr123:ZW:=hh [[0,1],[0,3],[0],[0,3],[0,5,6],[0],[0],[0,5,6],[0,6]]
@[go_sem] def hl123:ZW:=hh []
attribute [go_sem] Go.Proofs.Tryz.results123
theorem ZEj (w:ZS) (b:Bool) (n:Z1) (hw:smallW w) (h1:n.Zj.length≤LEN) (h2:n.ZJ.length≤LEN) (h3:n.Zk.length≤LEN):ZQ Go.Proofs.Tryz.prog 123 [.ref 0 0,.d (.agg n.cells)] [(0,.box (cB w b))] [.ref 0 0,.dead] (.d (.int .i64 (putB w b n).2.2)) [(0,.box (cB (putB w b n).1 (putB w b n).2.1))]:=by
 refine cof Go.Proofs.Tryz.func123 hr123 hl123 [true,false] ?_;simp -implicitDefEqProofs only [go_sem,ZEf,Z1.cells];cases b
 ·simp -implicitDefEqProofs only [go_sem];refine Zd3 (xs:=[.agg w.cells,.agg n.cells]) (ZEe w n hw h1 h2 h3) (by simp -implicitDefEqProofs only [go_sem,ZS.cells_eq,Z1.cells_eq];first|done|rfl) rfl ?_;cases hp:putN w n with
  |none=>
   have hW:putW w n=(w,0):=by rw [putW,hp]
   have hB:putB w false n=(w,true,0):=by simp only [putB,hp,cond_false]
   have d0:decide ((0:Int)=0)=true:=rfl;rw [hW,hB];simp -implicitDefEqProofs only [go_sem,d0,ZS.cells];repeat ((first|refine rq ?_|refine wl ?_|refine gl ?_|fail);simp -implicitDefEqProofs only [go_sem,d0,ZS.cells])
   try rfl
  |some q=>
   obtain ⟨w',p⟩:=q;have hW:putW w n=(w',p):=by rw [putW,hp]
   have hB:putB w false n=(w',false,p):=by simp only [putB,hp,cond_false]
   have d0:decide (p=0)=false:=decide_eq_false (Zcl hp);rw [hW,hB];simp -implicitDefEqProofs only [go_sem,d0,ZS.cells];repeat ((first|refine rq ?_|refine wl ?_|refine gl ?_|fail);simp -implicitDefEqProofs only [go_sem,d0,ZS.cells])
   try rfl
 ·simp -implicitDefEqProofs only [go_sem,putB,cond_true];repeat ((first|refine rq ?_|refine wl ?_|refine gl ?_|fail);simp -implicitDefEqProofs only [go_sem,putB,cond_true])
  try rfl
theorem ZFw {h:Heap} {tb:Nat} {K:OK} {n0:Nat} {rest:List V} {ls:List Nat} (w:ZS) (b:Bool) (n:Z1) (hw:smallW w) (h1:n.Zj.length≤LEN) (h2:n.ZJ.length≤LEN) (h3:n.Zk.length≤LEN) (hn:h n0=some (.box (cB w b))) (hro:refO h n0=[n0]) (hr:toDs h rest=some ([.agg n.cells],ls)) (hnl:(ls:List Nat).contains n0=false)
  (hk:K (renV (bx n0 tb [(0,.box (cB (putB w b n).1 (putB w b n).2.1))]) (.d (.int .i64 (putB w b n).2.2))) ((bif true then (ls:List Nat).map (·,none) else [])++(n0,none)::updX n0 tb [(0,.box (cB (putB w b n).1 (putB w b n).2.1))] [(0,.box (cB (putB w b n).1 (putB w b n).2.1))])):Z2 Go.Proofs.Tryz.prog h tb 123 (.ref n0 0::rest) K:=
 Zbz true hn hro rfl hr hnl (ZEj w b n hw h1 h2 h3) rfl rfl (.inl rfl) hk
@[go_sem] def hr129:ZW:=hh [[0,1],[0,1]]
@[go_sem] def hl129:ZW:=hh []
attribute [go_sem] Go.Proofs.Tryz.results129
theorem ZEh (w:ZS) (b:Bool) (p:Int) (hw:smallW w):ZQ Go.Proofs.Tryz.prog 129 [.ref 0 0,.d (.int .i64 p)] [(0,.box (cB w b))] [.ref 0 0,.dead] (.tup []) [(0,.box (cB (bif b then w else ZbP w p) b))]:=by
 refine cof Go.Proofs.Tryz.func129 hr129 hl129 [true,false] ?_;simp -implicitDefEqProofs only [go_sem,ZEf];cases b
 ·simp -implicitDefEqProofs only [go_sem];refine ZEa w p hw (by simp -implicitDefEqProofs only [go_sem,ZS.cells_eq];first|done|rfl) ?_;simp -implicitDefEqProofs only [go_sem,ZS.cells];repeat ((first|refine rq ?_|refine wl ?_|refine gl ?_|fail);simp -implicitDefEqProofs only [go_sem,ZS.cells])
  try rfl
 ·simp -implicitDefEqProofs only [go_sem];repeat ((first|refine rq ?_|refine wl ?_|refine gl ?_|fail);simp -implicitDefEqProofs only [go_sem])
  try rfl
theorem ZFy {h:Heap} {tb:Nat} {K:OK} {n0:Nat} {rest:List V} (w:ZS) (b:Bool) (p:Int) (hw:smallW w) (hn:h n0=some (.box (cB w b))) (hro:refO h n0=[n0]) (hr:toDs h rest=some ([.int .i64 p],[])) (hnl:([]:List Nat).contains n0=false)
  (hk:K (renV (bx n0 tb [(0,.box (cB (bif b then w else ZbP w p) b))]) (.tup [])) ((bif false then ([]:List Nat).map (·,none) else [])++(n0,none)::updX n0 tb [(0,.box (cB (bif b then w else ZbP w p) b))] [(0,.box (cB (bif b then w else ZbP w p) b))])):Z2 Go.Proofs.Tryz.prog h tb 129 (.ref n0 0::rest) K:=
 Zbz false hn hro rfl hr hnl (ZEh w b p hw) rfl rfl (.inr (.inl rfl)) hk
def ZEn (n:Z1) (a b:Nat):Z1:=⟨n.Zn,(n.Zj.take b).drop a,bif n.Zn then (n.ZJ.take b).drop a else [],bif n.Zn then [] else (n.Zk.take b).drop a⟩
def nodO (m:Z1):V:= .agg [.d (.bool m.Zn),.own 0 0 m.Zj.length,.own 1 0 m.ZJ.length,.own 2 0 m.Zk.length]
def nodH (m:Z1):List (Nat×AObj):=[(0,.arr 1 (strs m.Zj)),(1,.arr 1 (strs m.ZJ)),(2,.arr 1 (ints m.Zk))]
theorem ZEl {m:Z1}:nodO m= .agg [.d (.bool m.Zn),.own 0 0 m.Zj.length,.own 1 0 m.ZJ.length,.own 2 0 m.Zk.length]:=rfl
theorem ZEm {m:Z1}:nodH m=[(0,.arr 1 (strs m.Zj)),(1,.arr 1 (strs m.ZJ)),(2,.arr 1 (ints m.Zk))]:=rfl
theorem ZEo {l:List Key} {a b:Nat}:((strs l).take b).drop a=strs ((l.take b).drop a):=by simp [strs,List.map_take,List.map_drop]
theorem ZEp {l:List Int} {a b:Nat}:((ints l).take b).drop a=ints ((l.take b).drop a):=by simp [ints,List.map_take,List.map_drop]
@[go_sem] def hr193:ZW:=hh [[0,1,2],[1,2,3,6],[1,2,3,6,7],[1,2,3,6,7],[1,2,3,6,7],[6,7]]
@[go_sem] def hl193:ZW:=hh []
attribute [go_sem] Go.Proofs.Tryz.results193
theorem ZEk (n:Z1) (a b:Nat) (hab:a≤b) (hk:b≤n.Zj.length) (hv:n.Zn=true→b≤n.ZJ.length) (hi:n.Zn=false→b≤n.Zk.length) (hl:n.Zj.length≤1000):ZQ Go.Proofs.Tryz.prog 193 [.d (.agg n.cells),.d (.int .i64 a),.d (.int .i64 b)] [] [.dead,.dead,.dead] (nodO (ZEn n a b)) (nodH (ZEn n a b)):=by
 refine cof Go.Proofs.Tryz.func193 hr193 hl193 [false,false,false] ?_;have hb:((n.Zj.take b).drop a).length≤1048576:=by simp;omega
 simp -implicitDefEqProofs only [go_sem,Z1.cells];repeat ((first|refine rq ?_|fail);simp -implicitDefEqProofs only [go_sem])
 refine ZAq ((n.Zj.take b).drop a) hb (by simp -implicitDefEqProofs only [go_sem,ZEo];first|done|rfl) ?_;cases hleaf:n.Zn
 ·have hh:ZEn n a b=⟨false,(n.Zj.take b).drop a,[],(n.Zk.take b).drop a⟩:=by simp [ZEn,hleaf]
  have hi:=hi hleaf;have hb2:((n.Zk.take b).drop a).length≤1048576:=by simp;omega
  rw [hh];simp -implicitDefEqProofs only [go_sem,ZEl,ZEm,hleaf];repeat ((first|refine rq ?_|refine wl ?_|refine gl ?_|refine ZBe ((n.Zk.take b).drop a) (by omega) (by simp -implicitDefEqProofs only [go_sem,ZEp];first|done|rfl) ?_|fail);simp -implicitDefEqProofs only [go_sem,ZEl,ZEm,hleaf])
  try rfl
 ·have hh:ZEn n a b=⟨true,(n.Zj.take b).drop a,(n.ZJ.take b).drop a,[]⟩:=by simp [ZEn,hleaf]
  have hv:=hv hleaf;have hb2:((n.ZJ.take b).drop a).length≤1048576:=by simp;omega
  rw [hh];simp -implicitDefEqProofs only [go_sem,ZEl,ZEm,hleaf];repeat ((first|refine rq ?_|refine wl ?_|refine gl ?_|refine ZAq ((n.ZJ.take b).drop a) hb2 (by simp -implicitDefEqProofs only [go_sem,ZEo];first|done|rfl) ?_|fail);simp -implicitDefEqProofs only [go_sem,ZEl,ZEm,hleaf])
  try rfl
def ZEu (n:Z1) (a b:Nat) (hab:a≤b) (hk:b≤n.Zj.length) (hv:n.Zn=true→b≤n.ZJ.length) (hi:n.Zn=false→b≤n.Zk.length) (hl:n.Zj.length≤1000):=kf (ZEk n a b hab hk hv hi hl)
theorem ZEs {n:Z1} (h:n.Zn=true→n.ZJ.length=n.Zj.length∧n.Zk=[]) (h2:n.Zn=false→n.Zk.length=n.Zj.length∧n.ZJ=[]):ZEn n 0 n.Zj.length=n:=by
 obtain ⟨l,ks,vs,ids⟩:=n;cases l with
 |false=>
  obtain ⟨e1,rfl⟩:=h2 rfl;simp only at e1;simp only [ZEn,List.take_length,List.drop_zero,cond_false,cond_true];rw [List.take_of_length_le (by omega)]
 |true=>
  obtain ⟨e1,rfl⟩:=h rfl;simp only at e1;simp only [ZEn,List.take_length,List.drop_zero,cond_false,cond_true];rw [List.take_of_length_le (by omega)]
theorem ZEr {n:Z1} (hok:ZaA n):(n.Zn=true→n.ZJ.length=n.Zj.length∧n.Zk=[])∧(n.Zn=false→n.Zk.length=n.Zj.length∧n.ZJ=[]):=
 ⟨fun h=>by obtain ⟨_,_,_,h4,_,h6⟩:=(ZgD h).1 hok;exact ⟨h4,List.length_eq_zero_iff.1 h6⟩,fun h=>by obtain ⟨_,_,_,h4,h5,_⟩:=(Ze4 h).1 hok;exact ⟨h4,List.length_eq_zero_iff.1 h5⟩⟩
end Go.Rx
