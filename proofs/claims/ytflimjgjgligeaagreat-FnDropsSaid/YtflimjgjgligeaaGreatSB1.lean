/-
  Part B1: lemmas on an evaluator over plain data of the model's code, plain laws on lists and numbers, or contracts of functions of the program; each lemma names its conditions.
-/
import Derived.Test.YtflimjgjgligeaaGreatSA4
import Derived.Test.YtflimjgjgligeaaGreatSA6
import Derived.Test.YtflimjgjgligeaaGreatSA8
import Derived.Test.YtflimjgjgligeaaGreatSP3

set_option linter.unusedSimpArgs false
set_option linter.unusedVariables false
set_option maxRecDepth 100000
set_option maxHeartbeats 16000000
set_option linter.defProp false
namespace Go.Rx
open Go
attribute [local irreducible] Req Way WayG Sel Z2 ZQ Zaz cVC Zai ZaO
def ZeB (l:List Int) (i k:Nat) (x:Int):List Int:=(ZaP (l.take i)).take k++x::((ZaP (l.take i)).drop k++l.drop (i+1))
theorem ZrE {l:List Int} {i k:Nat} {x:Int} (h:l[i]? =some x) (hk:k≤i):(ZeB l i k x).length=l.length:=by
 have hi:=(List.getElem?_eq_some_iff.1 h).1;simp only [ZeB,List.length_append,List.length_cons,List.length_take,List.length_drop,Zbw];omega
theorem Zt0 {l:List Int} {i k:Nat} {x:Int} (h:l[i]? =some x) (hk:k≤i):(ZeB l i k x)[k]? =some x:=by
 have hi:=(List.getElem?_eq_some_iff.1 h).1;have hl:((ZaP (l.take i)).take k).length=k:=by rw [List.length_take,Zbw,List.length_take];omega
 rw [ZeB,List.getElem?_append_right (by omega),hl];simp
theorem ZoP {l:List Int} {i k:Nat} {x:Int} (h:l[i]? =some x) (hk:k≤i) (h0:0<k):∃y,(ZaP (l.take i))[k - 1]? =some y∧(ZeB l i k x)[k - 1]? =some y:=by
 have hi:=(List.getElem?_eq_some_iff.1 h).1;have hsl:(ZaP (l.take i)).length=i:=by rw [Zbw,List.length_take];omega
 have hl:((ZaP (l.take i)).take k).length=k:=by rw [List.length_take];omega
 refine ⟨_,List.getElem?_eq_getElem (by omega),?_⟩;rw [ZeB,List.getElem?_append_left (by omega),List.getElem?_take,if_pos (by omega)];exact List.getElem?_eq_getElem (by omega)
theorem ZmU {l:List Int} {i:Nat} {x:Int} (h:l[i]? =some x):ZeB l i i x=ZaP (l.take i)++l.drop i:=by
 have hi:=(List.getElem?_eq_some_iff.1 h).1;have hsl:(ZaP (l.take i)).length=i:=by rw [Zbw,List.length_take];omega
 rw [ZeB,List.take_of_length_le (by omega),List.drop_of_length_le (by omega),ZbU h];rfl
theorem ZkT {l:List Int} {i k:Nat} {x:Int} (h:l[i]? =some x) (hk:k≤i) (h1:∀y∈(ZaP (l.take i)).drop k,x<y) (h2:k=0∨∃y,(ZaP (l.take i))[k - 1]? =some y∧y≤x):
  ZeB l i k x=ZaP (l.take (i+1))++l.drop (i+1):=by
 have hi:=(List.getElem?_eq_some_iff.1 h).1;have hsl:(ZaP (l.take i)).length=i:=by rw [Zbw,List.length_take];omega
 rw [ZrF h,Zzg Zfm (by omega) h1 h2,ZeB];simp
theorem Zw8 {k:Nat} (h:0<k) (h2:k≤1099511627776):IntKind.i64.wrap ((k:Int) - 1)=((k - 1:Nat):Int):=by rw [Zad (by omega) (by omega)];omega
@[go_sem] def hr97:ZW:=hh [[0],[0],[3],[3,4],[3,4],[3,4],[3,4,5],[3,4,5],[3,4,5],[3,4,5,6],[3,4,5,6],[3]]
@[go_sem] def hl97:ZW:=hh [[],[],[],[3,4],[],[],[3,4,5]]
attribute [go_sem] Go.Proofs.Tryz.results97
theorem ZvA (l:List Int) (hl:l.length≤4194304):ZQ Go.Proofs.Tryz.prog 97 [.d (.sl (ints l))] [] [.dead] (.own 0 0 l.length) [(0,.arr 1 (ints (ZaP l)))]:=by
 refine cof Go.Proofs.Tryz.func97 hr97 hl97 [false] ?_;simp -implicitDefEqProofs only [go_sem,Za7];repeat ((first|refine rq ?_|fail);simp -implicitDefEqProofs only [go_sem,Za7])
 refine ZY (α:=Nat) (fun i=>⟨[(3,.own 0 0 l.length),(4,.d (.int .i64 i))],[(0,some (.arr 1 (ints (ZaP (l.take i)++l.drop i))))]⟩)
  (fun i=>1≤i∧(i≤1∨i≤l.length)) (fun i=>l.length+1 - i) 1 (by
   have:ZaP (l.take 1)++l.drop 1=l:=by cases l with
    |nil=>rfl
    |cons a l=>simp [ZaP,insR]
   rw [this];rfl) ⟨Nat.le_refl _,.inl (Nat.le_refl _)⟩ ?_
 rintro i ⟨h0,h1⟩;simp -implicitDefEqProofs only [go_sem];refine fork (fun h5=>?_) (fun h5=>?_)
 ·obtain ⟨x,hx⟩:=Z3 h5;simp -implicitDefEqProofs only [go_sem];rw [←ZmU hx];refine ZY (α:=Nat) (fun k=>⟨[(3,.own 0 0 l.length),(4,.d (.int .i64 i)),(5,.d (.int .i64 k))],[(0,some (.arr 1 (ints (ZeB l i k x))))]⟩)
   (fun k=>k≤i∧∀y∈(ZaP (l.take i)).drop k,x<y) (fun k=>k) i rfl ⟨Nat.le_refl _,by rw [List.drop_of_length_le (by rw [Zbw,List.length_take];omega)];simp⟩ ?_
  rintro k ⟨k1,k2⟩;have hlen:=ZrE hx k1;have hxk:=ZO (Zt0 hx k1);by_cases hk:0<k
  ·obtain ⟨y,hy,hy2⟩:=ZoP hx k1 hk;have hyk:=ZO hy2;have hp:=Zw8 hk (by omega);have dk:decide ((0:Int)<k)=true:=decide_eq_true (by omega);by_cases hxy:x<y
   ·have dxy:decide (x<y)=true:=decide_eq_true hxy;have e2:lget (ints ((ZeB l i k x).set k y)) (k - 1)=[.int .i64 y]:=ZO (by rw [List.getElem?_set_ne (by omega)];exact hy2);simp -implicitDefEqProofs only [go_sem,dk,hp,hlen,hxk,hyk,dxy];repeat ((first|refine rq ?_|fail);simp -implicitDefEqProofs only [go_sem,dk,hp,hlen,hxk,hyk,dxy,Zq3,List.length_set,e2])
    have hsl:(ZaP (l.take i)).length=i:=by rw [Zbw,List.length_take];omega
    refine ZP (k - 1) ?_ ⟨by omega,fun z hz=>?_⟩ (by omega)
    ·have:=ZyF (s:=ZaP (l.take i)) (rest:=l.drop (i+1)) (x:=x) (y:=y) (k:=k) hk (by omega) hy;rw [show ZeB l i k x=(ZaP (l.take i)).take k++x::((ZaP (l.take i)).drop k++l.drop (i+1)) from rfl,this];rfl
    ·have e3:(ZaP (l.take i)).drop (k - 1)=y::(ZaP (l.take i)).drop k:=by
      have:=ZbU hy;rw [show k - 1+1=k by omega] at this;exact this
     rw [e3] at hz;rcases List.mem_cons.1 hz with rfl|hz
     ·exact hxy
     ·exact k2 z hz
   ·have dxy:decide (x<y)=false:=decide_eq_false hxy;simp -implicitDefEqProofs only [go_sem,dk,hp,hlen,hxk,hyk,dxy];repeat ((first|refine rq ?_|fail);simp -implicitDefEqProofs only [go_sem,dk,hp,hlen,hxk,hyk,dxy])
    rw [ZkT hx k1 k2 (.inr ⟨y,hy,by omega⟩)];rw [ZV (by simp only [LEN];omega)];exact ZP (i+1) rfl ⟨by omega,by omega⟩ (by omega)
  ·have dk:decide ((0:Int)<k)=false:=decide_eq_false (by omega);simp -implicitDefEqProofs only [go_sem,dk];repeat ((first|refine rq ?_|fail);simp -implicitDefEqProofs only [go_sem,dk])
   rw [ZkT hx k1 k2 (.inl (by omega))];rw [ZV (by simp only [LEN];omega)];exact ZP (i+1) rfl ⟨by omega,by omega⟩ (by omega)
 ·have e1:l.take i=l:=List.take_of_length_le (by omega);have e2:l.drop i=[]:=List.drop_of_length_le (by omega);rw [e1,e2,List.append_nil];simp -implicitDefEqProofs only [go_sem]
def Zhi (l:List Int) (hl:l.length≤4194304):=kf (ZvA l hl)
section
variable {P:Program} {f:FuncId} {args outs:List V} {w:ZS} {d:ZT} {y:D}
theorem Zzh (hc:ZQ P f args [] outs (ofW w).v (ofW w).h) (ho:(outs.all fun x=>match x with| .dead=>true|_=>false)=true):ZQ P f args [] outs (.d (.agg w.cells)) []:=
 ZnL (ls:=[0,1,2,3,4]) hc (by simp [ZbC,toD,cD,cDs,hget,OW.v_eq,OW.h_eq,ofW,ZS.cells,Zdz,Zby,ZfJ]) ho
theorem Zxb (hc:ZQ P f args [] outs (.tup [(ofW w).v,.d y]) (ofW w).h) (ho:(outs.all fun x=>match x with| .dead=>true|_=>false)=true):ZQ P f args [] outs (.tup [.d (.agg w.cells),.d y]) []:=
 ZnL (ls:=[0,1,2,3,4]) hc (by simp [ZbC,toDs,toD,cD,cDs,hget,OW.v_eq,OW.h_eq,ofW,ZS.cells,Zdz,Zby,ZfJ]) ho
theorem Zzi (hc:ZQ P f args [] outs (.agg [.own 0 0 d.Zv.length,.own 1 0 d.Zm.length]) [(0,.arr 1 (strs d.Zv)),(1,.arr 2 (Zae d.Zm))]) (ho:(outs.all fun x=>match x with| .dead=>true|_=>false)=true):ZQ P f args [] outs (.d (.agg d.cells)) []:=
 ZnL (ls:=[0,1]) hc (by simp [ZbC,toD,cD,cDs,hget,ZT.cells,Zdz,ZfJ]) ho
end
theorem Zd3 {P:Program} {f:FuncId} {h:Heap} {tb:Nat} {K:OK} {args:List V} {xs:List D} {ls:List Nat} {res:V} (hc:ZQ P f (xs.map .d) [] (xs.map fun _=> .dead) res []) (hg:toDs h args=some (xs,ls)) (hf:ls=[])
  (hk:K (renV (bk tb []) res) []):Z2 P h tb f args K:=ZcM hg hc rfl (.inl hf) hk
theorem Zcb (w:ZS) (n:Z1) (hw:smallW w) (h1:n.Zj.length≤LEN) (h2:n.ZJ.length≤LEN) (h3:n.Zk.length≤LEN):ZQ Go.Proofs.Tryz.prog 41 [.d (.agg w.cells),.d (.agg n.cells)] [] [.dead,.dead] (.tup [.d (.agg (putW w n).1.cells),.d (.int .i64 (putW w n).2)]) []:=
 Zxb (Zly w n hw h1 h2 h3) rfl
theorem Zd8 (w:ZS) (hw:smallW w):ZQ Go.Proofs.Tryz.prog 102 [.d (.agg w.cells)] [] [.dead] (.d (.agg w.cells)) []:=Zzh (Zlw w hw) rfl
theorem Zd9 (d:ZT) (hd:Zck d):ZQ Go.Proofs.Tryz.prog 91 [.d (.agg d.cells)] [] [.dead] (.d (.agg d.cells)) []:=Zzi (Zlx d hd) rfl
def Zgi (d:ZT) (i:Nat):List Key:=Zee d.Zv.length d.Zv (d.Zm.take i)
theorem ZoI {d:ZT} {i:Nat} {q:GPut} (h:d.Zm[i]? =some q):Zgi d (i+1)=if 0≤q.Zu∧q.Zu≤(d.Zv.length:Int) - 1 then (Zgi d i).set q.Zu.toNat q.ZC else Zgi d i:=by
 unfold Zgi;rw [Z7 h,Zji]
@[go_sem] def hr56:ZW:=hh [[0],[1,2],[1,2,3],[1,2,3,4],[1,2,3,4],[1,2,3,4],[1,2,3,4],[2,3]]
@[go_sem] def hl56:ZW:=hh [[],[],[],[1,2,3,4]]
attribute [go_sem] Go.Proofs.Tryz.results56
theorem ZpG (d:ZT) (hd:Zck d):ZQ Go.Proofs.Tryz.prog 56 [.d (.agg d.cells)] [] [.dead] (.d (.agg (Za6 d).cells)) []:=by
 refine cofF Go.Proofs.Tryz.func56 hr56 hl56 ?_;simp -implicitDefEqProofs only [go_sem,ZT.cells];obtain ⟨h1,h2⟩:=hd;repeat ((first|refine rq ?_|fail);simp -implicitDefEqProofs only [go_sem,ZT.cells])
 have hz:Zgi d 0=d.Zv:=rfl;refine ZY (α:=Nat) (fun i=>⟨[(1,.ref 0 0),(2,.ref 1 0),(3,.ref 4 0),(4,.d (.int .i64 i))],[(0,some (.box [.d (.sl (strs d.Zv)),.d (.sl (Zae d.Zm))])),(1,some (.box [.own 2 0 0,.own 3 0 0])),(2,some (.arr 1 [])),(3,some (.arr 2 [])),(4,some (.box [.own 5 0 d.Zv.length,.own 6 0 0])),(5,some (.arr 1 (strs (Zgi d i)))),(6,some (.arr 2 []))]⟩)
  (fun i=>i≤d.Zm.length) (fun i=>d.Zm.length - i) 0 rfl (Nat.zero_le _) ?_
 rintro i i1;have hlen:(Zgi d i).length=d.Zv.length:=ZfN;simp -implicitDefEqProofs only [go_sem];refine fork (fun h5=>?_) (fun h5=>?_)
 ·obtain ⟨q,hq⟩:=Z3 h5;have hw:IntKind.i64.wrap ((d.Zv.length:Int) - 1)=(d.Zv.length:Int) - 1:=Zad (by omega) (by omega);have hst:=ZoI hq;by_cases hp:0≤q.Zu∧q.Zu≤(d.Zv.length:Int) - 1
  ·have dp:=decide_eq_true hp;rw [if_pos hp] at hst;have hcast:((q.Zu.toNat:Nat):Int)=q.Zu:=by omega
   obtain ⟨z,hz⟩:=Z3 (l:=Zgi d i) (i:=q.Zu.toNat) (by omega);simp -implicitDefEqProofs only [go_sem,ZaY hq,hw,hlen];repeat ((first|refine rq ?_|refine Zbx _ _ _ rfl ?_|fail);simp -implicitDefEqProofs only [go_sem,ZaY hq,hw,hlen,dp,ZM hz,ZfP])
   rw [←hst,ZV (by simp only [LEN];omega)];exact ZP (i+1) rfl (by omega) (by omega)
  ·have dp:=decide_eq_false hp;rw [if_neg hp] at hst;simp -implicitDefEqProofs only [go_sem,ZaY hq,hw,hlen];repeat ((first|refine rq ?_|refine Zbx _ _ _ rfl ?_|fail);simp -implicitDefEqProofs only [go_sem,ZaY hq,hw,hlen,dp])
   rw [←hst,ZV (by simp only [LEN];omega)];exact ZP (i+1) rfl (by omega) (by omega)
 ·have he:Zgi d i=(Za6 d).Zv:=by unfold Zgi;rw [List.take_of_length_le (by omega)];rfl
  have hl2:(Za6 d).Zv.length=d.Zv.length:=Zbb;rw [he];have ht:(strs (Za6 d).Zv).take d.Zv.length=strs (Za6 d).Zv:=by rw [←hl2,Zdz]
  simp -implicitDefEqProofs only [go_sem,ht,ZT.cells];repeat ((first|refine rq ?_|fail);simp -implicitDefEqProofs only [go_sem,ht,ZT.cells])
  rfl
def Zc4 (d:ZT) (hd:Zck d):=kf (ZpG d hd)
def notP (p:Int) (l:List Int):List Int:=l.filter fun q=> !decide (q=p)
theorem ZwS {p:Int} {l:List Int}:(notP p l).length≤l.length:=List.length_filter_le _ _
theorem Zus {p q:Int} {l:List Int} {i:Nat} (h:l[i]? =some q):notP p (l.take (i+1))=notP p (l.take i)++(if q=p then [] else [q]):=by
 rw [Z7 h,notP,List.filter_append];by_cases e:q=p<;>simp [notP,e]
theorem ZeO {m:List Int} {q:Int}:(ints m).take m.length++[[D.int .i64 q]]=ints (m++[q]):=by rw [Zby];simp [ints]
@[go_sem] def hr131:ZW:=hh [[0,1],[1,2,4],[1,2,4,5],[1,4,5],[4,5],[1,2,4,5],[1,2,4,5],[1,2,4,5,6],[1,2,4,5,6],[1,2,4,5,6],[1,2,4,5,6],[1,4,5],[4,5]]
@[go_sem] def hl131:ZW:=hh [[],[],[],[],[],[],[],[1,2,4,5,6]]
attribute [go_sem] Go.Proofs.Tryz.results131
theorem ZpT (w:ZS) (p:Int) (hw:smallW w):ZQ Go.Proofs.Tryz.prog 131 [.d (.agg w.cells),.d (.int .i64 p)] [] [.dead,.dead] (.d (.agg (Zxr w p).cells)) []:=by
 refine cofF Go.Proofs.Tryz.func131 hr131 hl131 ?_;simp -implicitDefEqProofs only [go_sem,ZS.cells];have hw':=hw;obtain ⟨⟨h1,h2⟩,h3,h4,h5⟩:=hw';refine Zc3 w hw (by simp -implicitDefEqProofs only [go_sem];first|done|rfl) ?_;simp -implicitDefEqProofs only [go_sem,ZS.cells];repeat ((first|refine rq ?_|fail);simp -implicitDefEqProofs only [go_sem,ZS.cells])
 refine Znx w.Zf p (by simp only [LEN];omega) (by simp -implicitDefEqProofs only [go_sem];first|done|rfl) ?_;unfold Zxr;by_cases hf:p∈w.Zf
 ·have df:=decide_eq_true hf;rw [if_pos hf];simp -implicitDefEqProofs only [go_sem,df];repeat ((first|refine rq ?_|fail);simp -implicitDefEqProofs only [go_sem,df])
  refine ZY (α:=Nat) (fun i=>⟨[(1,.d (.int .i64 p)),(2,.ref 0 0),(4,.ref 1 0),(5,.ref 7 0),(6,.d (.int .i64 i))],[(0,some (.box [.d (.sl (strs w.Zc.Zv)),.d (.sl (Zae w.Zc.Zm)),.d (.int .i64 w.Zs),.d (.sl (ints w.ZH)),.d (.sl (ints w.Zg)),.d (.sl (ints w.Zf))])),(1,some (.box [.own 2 0 0,.own 3 0 0,.d (.int .i64 0),.own 4 0 0,.own 5 0 0,.own 6 0 0])),(2,some (.arr 1 [])),(3,some (.arr 2 [])),(4,some (.arr 1 [])),(5,some (.arr 1 [])),(6,some (.arr 1 [])),(7,some (.box [.own 8 0 w.Zc.Zv.length,.own 9 0 w.Zc.Zm.length,.d (.int .i64 w.Zs),.own 10 0 w.ZH.length,.own 11 0 w.Zg.length,.own 12 0 (notP p (w.Zf.take i)).length])),(8,some (.arr 1 (strs w.Zc.Zv))),(9,some (.arr 2 (Zae w.Zc.Zm))),(10,some (.arr 1 (ints w.ZH))),(11,some (.arr 1 (ints w.Zg))),(12,some (.arr 1 (ints (notP p (w.Zf.take i)))))]⟩)
   (fun i=>i≤w.Zf.length) (fun i=>w.Zf.length - i) 0 rfl (Nat.zero_le _) ?_
  rintro i i1;have hnl:=ZwS (p:=p) (l:=w.Zf.take i);simp only [List.length_take] at hnl;simp -implicitDefEqProofs only [go_sem];refine fork (fun h6=>?_) (fun h6=>?_)
  ·obtain ⟨q,hq⟩:=Z3 h6;have hst:=Zus (p:=p) hq;by_cases hqp:q=p
   ·have dq:=decide_eq_true hqp;rw [if_pos hqp,List.append_nil] at hst;simp -implicitDefEqProofs only [go_sem,ZO hq,dq];repeat ((first|refine rq ?_|fail);simp -implicitDefEqProofs only [go_sem,ZO hq,dq])
    rw [←hst,ZV (by simp only [LEN];omega)];exact ZP (i+1) rfl (by omega) (by omega)
   ·have dq:=decide_eq_false hqp;rw [if_neg hqp] at hst;simp -implicitDefEqProofs only [go_sem,ZO hq,dq];repeat ((first|refine rq ?_|fail);simp -implicitDefEqProofs only [go_sem,ZO hq,dq,ZeO])
    rw [ZV (by simp only [LEN];omega)];refine ZP (i+1) ?_ (by omega) (by omega);simp only [hst,List.length_append,List.length_cons,List.length_nil]
  ·have he:notP p (w.Zf.take i)=w.Zf.filter fun q=> !decide (q=p):=by rw [List.take_of_length_le (by omega)];rfl
   rw [he];simp -implicitDefEqProofs only [go_sem];repeat ((first|refine Zhi (w.ZH++[p]) (by simp;omega) (by simp -implicitDefEqProofs only [go_sem,ZnG];first|done|rfl) ?_|refine rq ?_|fail);simp -implicitDefEqProofs only [go_sem,ZeO])
   have hss:(ints (ZaP (w.ZH++[p]))).take (w.ZH++[p]).length=ints (ZaP (w.ZH++[p])):=List.take_of_length_le (by simp [ints,Zbw]);simp -implicitDefEqProofs only [go_sem,hss];repeat ((first|refine rq ?_|fail);simp -implicitDefEqProofs only [go_sem,hss])
   rfl
 ·have df:=decide_eq_false hf;rw [if_neg hf];simp -implicitDefEqProofs only [go_sem,df];repeat ((first|refine rq ?_|fail);simp -implicitDefEqProofs only [go_sem,df])
  rfl
def Zbp (w:ZS) (p:Int) (hw:smallW w):=kf (ZpT w p hw)
theorem Zik {key:Key}:∀ {l:List Key} {i:Nat} {out:Int} {k:Key},Zer key i out (l++[k])=if kle k key then ((i+l.length:Nat):Int) else Zer key i out l
 |[],i,out,k=>by simp [Zer]
 |a::l,i,out,k=>by
  rw [List.cons_append,Zer,Zik,Zer];simp [Nat.add_assoc,Nat.add_comm 1]
theorem ZoV {l:List Key} {i:Nat} {k key:Key} (h:l[i]? =some k):Zbe (l.take (i+1)) key=if kle k key then (i:Int) else Zbe (l.take i) key:=by
 have hi:=(List.getElem?_eq_some_iff.1 h).1;rw [Z7 h,Zbe,Zik,List.length_take];rw [Nat.min_eq_left (by omega)];simp [Zbe]
@[go_sem] def hr132:ZW:=hh [[0,1],[1,2],[1,2,5],[1,2,5,6],[1,2,5,6],[1,2,5,6],[1,2,6],[5]]
@[go_sem] def hl132:ZW:=hh [[],[],[],[1,2,5,6]]
attribute [go_sem] Go.Proofs.Tryz.results132
theorem ZsN (n:Z1) (key:Key) (hn:n.Zj.length≤LEN):ZQ Go.Proofs.Tryz.prog 132 [.d (.agg n.cells),.d (.str key)] [] [.dead,.dead] (.d (.int .i64 (Zbe n.Zj key))) []:=by
 refine cof Go.Proofs.Tryz.func132 hr132 hl132 [false,false] ?_;simp -implicitDefEqProofs only [go_sem,Z1.cells];refine ZY (α:=Nat) (fun i=>⟨[(1,.d (.str key)),(2,.ref 0 0),(5,.d (.int .i64 (Zbe (n.Zj.take i) key))),(6,.d (.int .i64 i))],[(0,some (.box [.d (.bool n.Zn),.d (.sl (strs n.Zj)),.d (.sl (strs n.ZJ)),.d (.sl (ints n.Zk))]))]⟩)
  (fun i=>i≤n.Zj.length) (fun i=>n.Zj.length - i) 0 rfl (Nat.zero_le _) ?_
 rintro i i1;simp -implicitDefEqProofs only [go_sem];refine fork (fun h5=>?_) (fun h5=>?_)
 ·obtain ⟨k,hk⟩:=Z3 h5;have hst:=ZoV (key:=key) hk;by_cases hc:kle k key
  ·have dc:Zax key k=false:=hc;rw [if_pos hc] at hst;simp -implicitDefEqProofs only [go_sem,ZM hk,dc];repeat ((first|refine rq ?_|refine way (fun h=>absurd h (by simp)) (fun _=>?_)|refine way (fun _=>?_) (fun h=>absurd h (by simp))|fail);simp -implicitDefEqProofs only [go_sem,ZM hk,dc])
   rw [ZV (by simp only [LEN] at hn ⊢;omega)];exact ZP (i+1) (by simp only [hst]) (by omega) (by omega)
  ·have dc:Zax key k=true:=Zur.1 hc;rw [if_neg hc] at hst;simp -implicitDefEqProofs only [go_sem,ZM hk,dc];repeat ((first|refine rq ?_|refine way (fun h=>absurd h (by simp)) (fun _=>?_)|refine way (fun _=>?_) (fun h=>absurd h (by simp))|fail);simp -implicitDefEqProofs only [go_sem,ZM hk,dc])
   rw [←hst,ZV (by simp only [LEN] at hn ⊢;omega)];exact ZP (i+1) rfl (by omega) (by omega)
 ·rw [List.take_of_length_le (by omega)];simp -implicitDefEqProofs only [go_sem]
def ZaT (n:Z1) (key:Key) (hn:n.Zj.length≤LEN):=kf (ZsN n key hn)
def kS (l:List ZR):List (List D):=strs (l.map (·.Zi))
def vS (l:List ZR):List (List D):=strs (l.map (·.ZI))
theorem Zfz {l:List ZR} {i:Nat} {p:ZR} (h:l[i]? =some p):lget (kS l) i=[.str p.Zi]:=ZM (by rw [List.getElem?_map,h];rfl)
theorem Zfy {l:List ZR} {i:Nat} {p:ZR} (h:l[i]? =some p):lget (vS l) i=[.str p.ZI]:=ZM (by rw [List.getElem?_map,h];rfl)
theorem Zek {l:List ZR}:(kS l).length=l.length:=by simp [kS,strs]
theorem Zed {l:List ZR}:(vS l).length=l.length:=by simp [vS,strs]
theorem ZuY {l:List ZR} {k v:Key}:(kS l).take l.length++[[D.str k]]=kS (l++[⟨k,v⟩]):=by
 rw [List.take_of_length_le (by rw [Zek];omega)];simp [kS,strs]
theorem ZtJ {l:List ZR} {k v:Key}:(vS l).take l.length++[[D.str v]]=vS (l++[⟨k,v⟩]):=by
 rw [List.take_of_length_le (by rw [Zed];omega)];simp [vS,strs]
theorem Zq1 {l:List ZR} {p:ZR}:(kS l).take l.length++[[D.str p.Zi]]=kS (l++[p]):=ZuY (v:=p.ZI)
theorem Zqs {l:List ZR} {p:ZR}:(vS l).take l.length++[[D.str p.ZI]]=vS (l++[p]):=ZtJ (k:=p.Zi)
theorem Zyb {l:List ZR}:(kS l).take l.length=kS l:=List.take_of_length_le (by rw [Zek];omega)
theorem ZxR {l:List ZR}:(vS l).take l.length=vS l:=List.take_of_length_le (by rw [Zed];omega)
@[go_sem] def hr196:ZW:=hh [[0,1,2],[1,2,3,6],[1,2,3,6,7],[1,2,3,6,7,8],[1,2,3,6,7,8],[1,2,3,6,7,8],[1,2,3,6,7,8],[1,2,3,6,7,8],[1,2,3,6,7],[1,2,3,6,7],[1,3,6,7],[1,3,6,7,9],[1,3,6,7,9],[1,3,6,7,9],[1,3,6,7,9],[1,3,6,7,9],[6,7]]
@[go_sem] def hl196:ZW:=hh [[],[],[],[1,2,3,6,7,8],[],[],[],[],[],[],[],[1,3,6,7,9]]
attribute [go_sem] Go.Proofs.Tryz.results196
theorem Zvw (n:Z1) (key val:Key) (hn:n.ZJ.length=n.Zj.length) (hl:n.Zj.length≤1048576):ZQ Go.Proofs.Tryz.prog 196 [.d (.agg n.cells),.d (.str key),.d (.str val)] [] [.dead,.dead,.dead] (.d (.agg (Za2 (mput (Zaq n) key val)).cells)) []:=by
 refine cofF Go.Proofs.Tryz.func196 hr196 hl196 ?_;have hK:n.Zj=(Zaq n).map (·.Zi):=by
  simp only [Zaq,List.map_map,Function.comp_def,Zfq];exact (List.map_fst_zip (by omega)).symm
 have hV:n.ZJ=(Zaq n).map (·.ZI):=by
  simp only [Zaq,List.map_map,Function.comp_def,Zfq];exact (List.map_snd_zip (by omega)).symm
 have hl':(Zaq n).length=n.Zj.length:=by rw [hK,List.length_map]
 rw [←hl'] at hl;have eK:strs n.Zj=kS (Zaq n):=by rw [hK];rfl
 have eV:strs n.ZJ=vS (Zaq n):=by rw [hV];rfl
 have eL:n.Zj.length=(Zaq n).length:=hl'.symm;simp -implicitDefEqProofs only [go_sem,Z1.cells,eK,eV];generalize Zaq n=l at*;repeat ((first|refine rq ?_|fail);simp -implicitDefEqProofs only [go_sem,Z1.cells])
 refine ZY (α:=Nat) (fun i=>⟨[(1,.d (.str key)),(2,.d (.str val)),(3,.ref 0 0),(6,.ref 1 0),(7,.ref 5 0),(8,.d (.int .i64 i))],[(0,some (.box [.d (.bool n.Zn),.d (.sl (kS l)),.d (.sl (vS l)),.d (.sl (ints n.Zk))])),(1,some (.box [.d (.bool false),.own 2 0 0,.own 3 0 0,.own 4 0 0])),(2,some (.arr 1 [])),(3,some (.arr 1 [])),(4,some (.arr 1 [])),(5,some (.box [.d (.bool true),.own 6 0 (Zd1 (l.take i) key).length,.own 7 0 (Zd1 (l.take i) key).length,.own 8 0 0])),(6,some (.arr 1 (kS (Zd1 (l.take i) key)))),(7,some (.arr 1 (vS (Zd1 (l.take i) key)))),(8,some (.arr 1 []))]⟩)
  (fun i=>i≤l.length) (fun i=>l.length - i) 0 rfl (Nat.zero_le _) ?_
 rintro i i1;have hkl:=ZeJ (l:=l.take i) (key:=key);simp only [List.length_take] at hkl;simp -implicitDefEqProofs only [go_sem,Zek,Zed];refine fork (fun h5=>?_) (fun h5=>?_)
 ·obtain ⟨p,hp⟩:=Z3 h5;have hst:=ZgG (key:=key) hp;cases hc:Zax p.Zi key
  ·rw [if_neg (by rw [hc];simp),List.append_nil] at hst;simp -implicitDefEqProofs only [go_sem,Zek,Zed,Zfz hp,Zfy hp,hc];repeat ((first|refine rq ?_|refine way (fun h=>absurd h (by simp)) (fun _=>?_)|refine way (fun _=>?_) (fun h=>absurd h (by simp))|fail);simp -implicitDefEqProofs only [go_sem,Zek,Zed,Zfz hp,Zfy hp,hc])
   rw [←hst,ZV (by simp only [LEN];omega)];exact ZP (i+1) rfl (by omega) (by omega)
  ·rw [if_pos hc] at hst;simp -implicitDefEqProofs only [go_sem,Zek,Zed,Zfz hp,Zfy hp,hc];repeat ((first|refine rq ?_|refine way (fun h=>absurd h (by simp)) (fun _=>?_)|refine way (fun _=>?_) (fun h=>absurd h (by simp))|fail);simp -implicitDefEqProofs only [go_sem,Zek,Zed,Zfz hp,Zfy hp,hc,Zq1,Zqs])
   rw [ZV (by simp only [LEN];omega)];refine ZP (i+1) ?_ (by omega) (by omega);simp only [hst,List.length_append,List.length_cons,List.length_nil]
 ·have hi:i=l.length:=by omega
  subst hi;have hk2:=ZeJ (l:=l) (key:=key);rw [List.take_length];simp -implicitDefEqProofs only [go_sem,Zek,Zed];repeat ((first|refine rq ?_|fail);simp -implicitDefEqProofs only [go_sem,Zek,Zed,ZuY (v:=val),ZtJ (k:=key)])
  refine ZY (α:=Nat) (fun i=>⟨[(1,.d (.str key)),(3,.ref 0 0),(6,.ref 1 0),(7,.ref 5 0),(9,.d (.int .i64 i))],[(0,some (.box [.d (.bool n.Zn),.d (.sl (kS l)),.d (.sl (vS l)),.d (.sl (ints n.Zk))])),(1,some (.box [.d (.bool false),.own 2 0 0,.own 3 0 0,.own 4 0 0])),(2,some (.arr 1 [])),(3,some (.arr 1 [])),(4,some (.arr 1 [])),(5,some (.box [.d (.bool true),.own 6 0 (Zdh l key val i).length,.own 7 0 (Zdh l key val i).length,.own 8 0 0])),(6,some (.arr 1 (kS (Zdh l key val i)))),(7,some (.arr 1 (vS (Zdh l key val i)))),(8,some (.arr 1 []))]⟩)
   (fun i=>i≤l.length) (fun i=>l.length - i) 0 (by simp [Zdh,Zd5]) (Nat.zero_le _) ?_
  rintro i h7;have hml:=Znj (key:=key) (val:=val) (i:=i) hl;simp -implicitDefEqProofs only [go_sem,Zek,Zed];refine fork (fun h8=>?_) (fun h8=>?_)
  ·obtain ⟨p,hp⟩:=Z3 h8;cases hc:Zax key p.Zi
   ·have hst:Zdh l key val (i+1)=Zdh l key val i:=by simp [Zdh,Zel hp,hc]
    simp -implicitDefEqProofs only [go_sem,Zek,Zed,Zfz hp,Zfy hp,hc];repeat ((first|refine rq ?_|refine way (fun h=>absurd h (by simp)) (fun _=>?_)|refine way (fun _=>?_) (fun h=>absurd h (by simp))|fail);simp -implicitDefEqProofs only [go_sem,Zek,Zed,Zfz hp,Zfy hp,hc])
    rw [←hst,ZV (by simp only [LEN];omega)];exact ZP (i+1) rfl (by omega) (by omega)
   ·have hst:Zdh l key val (i+1)=Zdh l key val i++[p]:=by simp [Zdh,Zel hp,hc]
    simp -implicitDefEqProofs only [go_sem,Zek,Zed,Zfz hp,Zfy hp,hc];repeat ((first|refine rq ?_|refine way (fun h=>absurd h (by simp)) (fun _=>?_)|refine way (fun _=>?_) (fun h=>absurd h (by simp))|fail);simp -implicitDefEqProofs only [go_sem,Zek,Zed,Zfz hp,Zfy hp,hc,Zq1,Zqs])
    rw [ZV (by simp only [LEN];omega)];refine ZP (i+1) ?_ (by omega) (by omega);simp only [hst,List.length_append,List.length_cons,List.length_nil]
  ·have hi:i=l.length:=by omega
   subst hi;have hm:Zdh l key val l.length=mput l key val:=by rw [Zo2];simp [Zdh]
   rw [hm];simp -implicitDefEqProofs only [go_sem,Zyb,ZxR];repeat ((first|refine rq ?_|fail);simp -implicitDefEqProofs only [go_sem,Zyb,ZxR])
   rfl
def Znq (n:Z1) (key val:Key) (hn:n.ZJ.length=n.Zj.length) (hl:n.Zj.length≤1048576):=kf (Zvw n key val hn hl)
end Go.Rx
