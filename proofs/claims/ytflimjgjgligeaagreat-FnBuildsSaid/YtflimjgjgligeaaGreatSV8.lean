/-
  Part V8: lemmas on an evaluator over plain data of the model's code, plain laws on lists and numbers, or contracts of functions of the program; each lemma names its conditions.
-/
import Derived.Test.YtflimjgjgligeaaGreatSA1
import Derived.Test.YtflimjgjgligeaaGreatSA7
import Derived.Test.YtflimjgjgligeaaGreatSA8
import Derived.Test.YtflimjgjgligeaaGreatSB1
import Derived.Test.YtflimjgjgligeaaGreatSBX
import Derived.Test.YtflimjgjgligeaaGreatSC3
import Derived.Test.YtflimjgjgligeaaGreatSC4
import Derived.Test.YtflimjgjgligeaaGreatSE1
import Derived.Test.YtflimjgjgligeaaGreatSE2
import Derived.Test.YtflimjgjgligeaaGreatSE3
import Derived.Test.YtflimjgjgligeaaGreatSE4
import Derived.Test.YtflimjgjgligeaaGreatSE6
import Derived.Test.YtflimjgjgligeaaGreatSKJ
import Derived.Test.YtflimjgjgligeaaGreatSN20
import Derived.Test.YtflimjgjgligeaaGreatSNA
import Derived.Test.YtflimjgjgligeaaGreatSNC
import Derived.Test.YtflimjgjgligeaaGreatSP1
import Derived.Test.YtflimjgjgligeaaGreatSP2
import Derived.Test.YtflimjgjgligeaaGreatSP3
import Derived.Test.YtflimjgjgligeaaGreatSP4
import Derived.Test.YtflimjgjgligeaaGreatSP5
import Derived.Test.YtflimjgjgligeaaGreatSY1

set_option linter.unusedSimpArgs false
set_option linter.unusedVariables false
set_option maxRecDepth 100000
set_option maxHeartbeats 16000000
set_option linter.defProp false
namespace Go.Rx
open Go
theorem ZGH:∀ {bs:List (List ZR)} {c:Ch} {out:List GKid},c.bad=false→(match ZbH c.w.work out bs with
  |none=>(ZFR c out bs).1.bad=true
  |some (w',k)=>(ZFR c out bs).1.bad=false∧(ZFR c out bs).1.w.work=w'∧(ZFR c out bs).2=k)
 |[],c,out,hb=>⟨hb,rfl,rfl⟩
 |b::bs,c,out,hb=>by
  have:=ZFW (n:=Za2 b) hb;rw [ZbH,ZFR];cases hp:putN c.w.work (Za2 b) with
  |none=>rw [hp] at this;rw [this.1];rfl
  |some q=>
   obtain ⟨w',p⟩:=q;rw [hp] at this;obtain ⟨e1,e2,e3⟩:=this;rw [e1,e3];simp only [cond_false];have ih:=ZGH (bs:=bs) (out:=out++[⟨key1 b,p⟩]) e1;rw [e2] at ih;exact ih
theorem ZGG:∀ {bs:List (List GKid)} {c:Ch} {out:List GKid},c.bad=true→(ZFX c out bs).1.bad=true
 |[],c,out,hb=>hb
 |b::bs,c,out,hb=>by
  rw [ZFX,ZFU hb];exact ZGG hb
theorem ZGL:∀ {bs:List (List GKid)} {c:Ch} {out:List GKid},c.bad=false→(match Zcz c.w.work out bs with
  |none=>(ZFX c out bs).1.bad=true
  |some (w',k)=>(ZFX c out bs).1.bad=false∧(ZFX c out bs).1.w.work=w'∧(ZFX c out bs).2=k)
 |[],c,out,hb=>⟨hb,rfl,rfl⟩
 |b::bs,c,out,hb=>by
  have:=ZFW (n:=kidB b) hb;rw [Zcz,ZFX];cases hp:putN c.w.work (kidB b) with
  |none=>rw [hp] at this;exact ZGG (by rw [this.1])
  |some q=>
   obtain ⟨w',p⟩:=q;rw [hp] at this;obtain ⟨e1,e2,e3⟩:=this;rw [e3];have ih:=ZGL (bs:=bs) (out:=out++[⟨Zy2 b,p⟩]) e1;rw [e2] at ih;exact ih
theorem ZGF:∀ {f:Nat} {c:Ch} {k:List GKid},c.bad=false→(match Zc2 f c.w.work k with
  |none=>(ZF2 f c k).1.bad=true
  |some (w',k')=>(ZF2 f c k).1.bad=false∧(ZF2 f c k).1.w.work=w'∧(ZF2 f c k).2=k')
 |0,c,k,hb=>⟨hb,rfl,rfl⟩
 |f+1,c,k,hb=>by
  rw [Zc2,ZF2];by_cases h:1<k.length
  ·rw [if_pos h,if_pos ⟨hb,h⟩];have:=ZGL (bs:=ZaR k) (out:=[]) hb;cases hl:Zcz c.w.work [] (ZaR k) with
   |none=>
    rw [hl] at this;rw [ZF5 (by rw [this];simp)];exact this
   |some q=>
    obtain ⟨w',k'⟩:=q;rw [hl] at this;obtain ⟨e1,e2,e3⟩:=this;have ih:=ZGF (f:=f) (k:=k') e1;rw [e2] at ih;rw [e3];exact ih
  ·rw [if_neg h,if_neg (fun x=>h x.2)];exact ⟨hb,rfl,rfl⟩
theorem ZGQ {w:ZS} {l:List ZR}:(match ZhC w l with
  |none=>(ZF3 w l).1.work=w∧(ZF3 w l).2=(0,false)
  |some (w',p)=>(ZF3 w l).1.work=w'∧(ZF3 w l).2=(p,true)):=by
 unfold ZhC ZF3;by_cases h:ascK (l.map (·.Zi))
 ·rw [if_pos h,decide_eq_true h,cond_true];have h1:=ZGH (bs:=ZaR l) (c:=⟨ofW w,false⟩) (out:=[]) rfl;rw [ZD2] at h1;cases hl:ZbH w [] (ZaR l) with
  |none=>
   rw [hl] at h1;have:(ZGb w l).1.bad=true:=by rw [ZGb,ZF5 (by rw [h1];simp)];exact h1
   rw [this];exact ⟨ZD2,rfl⟩
  |some q=>
   obtain ⟨w1,k1⟩:=q;rw [hl] at h1;obtain ⟨e1,e2,e3⟩:=h1;have h2:=ZGF (f:=l.length) (k:=k1) e1;rw [e2] at h2;simp only;cases hs:Zc2 l.length w1 k1 with
   |none=>
    rw [hs] at h2;have:(ZGb w l).1.bad=true:=by rw [ZGb,e3];exact h2
    rw [this];exact ⟨ZD2,rfl⟩
   |some q=>
    obtain ⟨w2,k2⟩:=q;rw [hs] at h2;have e:ZGb w l=ZF2 l.length (ZFR ⟨ofW w,false⟩ [] (ZaR l)).1 k1:=by rw [ZGb,e3]
    rw [e,h2.1];exact ⟨h2.2.1,by rw [h2.2.2];rfl⟩
 ·rw [if_neg h,decide_eq_false h];exact ⟨ZD2,rfl⟩
end Go.Rx

namespace Go.Rx
open Go
attribute [local irreducible] Req Way WayG Sel Z2 ZQ Zaz cVC Zai ZaO
def ZGE (code:List UInt8):List ZR:=(drawn (Cur.new code)).1
theorem ZGJ (code:List UInt8) (hl:code.length≤1048576):ZQ Go.Proofs.Tryz.prog 31 [.d (.sl (bys code))] [] [.dead] (.d (.sl (Zaj (ZGE code)))) []:=by
 refine cofF Go.Proofs.Tryz.func31 hr31 hl31 ?_;have o1:=Cur.new_ok hl;simp -implicitDefEqProofs only [go_sem];refine Znr code hl rfl ?_;simp -implicitDefEqProofs only [go_sem,Cur.cells];repeat ((first|refine ZGn (Cur.new code) o1 rfl rfl ?_|fail);simp -implicitDefEqProofs only [go_sem,Cur.cells])
 try rfl
def ZGI (code:List UInt8) (hl:code.length≤1048576):=kf (ZGJ code hl)
theorem fz_ow3 {P:Program} {f:FuncId} {args outs:List V} {o:OW} {y z:D} (hc:ZQ P f args [] outs (.tup [o.v,.d y,.d z]) o.h) (ho:(outs.all fun x=>match x with| .dead=>true|_=>false)=true):ZQ P f args [] outs (.tup [.d (.agg o.work.cells),.d y,.d z]) []:=
 ZnL (ls:=[0,1,2,3,4]) hc (by simp [ZbC,toDs,toD,cD,cDs,hget,OW.v_eq,OW.h_eq,OW.work,ZS.cells,Zdz,Zby,ZfJ,ZuZ]) ho
theorem ZGP (w:ZS) (l:List ZR) (hw:smallW w) (hl:l.length≤1048576):ZQ Go.Proofs.Tryz.prog 34 [.d (.agg w.cells),.d (.sl (Zaj l))] [] [.dead,.dead] (Zkg w l) []:=by
 have h:=fz_ow3 (ZGa w l hw hl) rfl;have e:=ZGQ (w:=w) (l:=l);unfold Zkg;cases hb:ZhC w l with
 |none=>rw [hb] at e;simp only at e;rw [e.1,e.2] at h;exact h
 |some r=>obtain ⟨w',p⟩:=r;rw [hb] at e;simp only at e;rw [e.1,e.2] at h;exact h
def d40:ZT:=⟨List.replicate 40 [],[]⟩
theorem ZGT:Za5 d40:=ZnR (n:=40) (by omega)
theorem ZGU:ZQ Go.Proofs.Tryz.prog 32 [.d (.int .i64 40)] [] [.dead] (.tup [.d (.agg d40.cells),.d (.bool true)]) []:=ZsT 40 (by omega)
def ZGD:ZS:=⟨d40,2,[],[],[]⟩
theorem ZGS:Zdq d40 ⟨0,0,2,[]⟩ 0=ZGD:=by simp [Zdq,ZGD,ZaP]
theorem ZGM:Lin ZGD 0:=⟨ZGT,by simp [ZGD,d40],rfl,rfl,rfl,rfl⟩
theorem ZGN:WOK (fun q=>2≤q) [] ZGD:=
 ⟨ZGT,fun q=>by simp [ZGD],by simp [ZGD],by simp [ZGD],by simp [ZGD],by simp [ZGD],by simp [ZGD],by simp [ZGD],by simp,by simp,by simp [ZGD],by simp [ZGD,d40],by simp [ZGD,d40]⟩
theorem ZGR:smallW ZGD:=by simp [ZGD,smallW,Zck,d40]
def remL (k:Nat):Nat:=if k=0 then 0 else cntL k
theorem ZGW {k:Nat} (h:0<k):remL k=(k+3) / 4+remL (if (k+3) / 4=1 then 0 else (k+3) / 4):=by
 have e:cntB ((k+3) / 4)=if (k+3) / 4≤1 then 0 else ((k+3) / 4+3) / 4+cntB (((k+3) / 4+3) / 4):=by rw [cntB]
 rw [remL,if_neg (by omega),cntL,e];by_cases h1:(k+3) / 4=1
 ·rw [if_pos (by omega),if_pos h1];simp [remL]
 ·rw [if_neg (by omega),if_neg h1,remL,if_neg (by omega),cntL]
theorem ZGV {n:Nat}:remL n=cntL n:=by
 by_cases h:n=0
 ·subst h;simp [remL,cntL,cntB]
 ·rw [remL,if_neg h]
theorem ZGX {w:ZS} {l:List ZR}:∃x y b,Zkg w l= .tup [.d (.agg (ZS.cells x)),.d (.int .i64 y),.d (.bool b)]∧(¬ascK (l.map (·.Zi))→b=false):=by
 unfold Zkg;cases hb:ZhC w l with
 |none=>exact ⟨_,_,_,rfl,fun _=>rfl⟩
 |some r=>obtain ⟨w',p⟩:=r;exact ⟨_,_,_,rfl,fun h=>by rw [ZhC,if_neg h] at hb;cases hb⟩
theorem ZGY:∀ {f:Nat} {c:Ch} {k:List GKid},smallW c.w.work→smallW (ZF2 f c k).1.w.work
 |0,_,_,h=>h
 |f+1,c,k,h=>by
  rw [ZF2];split
  ·exact ZGY (ZF6 h)
  ·exact h
theorem ZGZ {w:ZS} {l:List ZR} (h:smallW w):∃x y b,Zkg w l= .tup [.d (.agg (ZS.cells x)),.d (.int .i64 y),.d (.bool b)]∧smallW x:=by
 have e:=ZGQ (w:=w) (l:=l);have hs:smallW (ZF3 w l).1.work:=by
  unfold ZF3;cases decide (ascK (l.map (·.Zi)))
  ·rw [cond_false];show smallW (ofW w).work;rw [ZD2];exact h
  ·rw [cond_true];cases hb:(ZGb w l).1.bad
   ·rw [cond_false];exact ZGY (ZF4 (by show smallW (ofW w).work;rw [ZD2];exact h))
   ·rw [cond_true];show smallW (ofW w).work;rw [ZD2];exact h
 unfold Zkg;cases hb:ZhC w l with
 |none=>exact ⟨_,_,_,rfl,h⟩
 |some r=>obtain ⟨w',p⟩:=r;rw [hb] at e;simp only at e;exact ⟨_,_,_,rfl,e.1▸hs⟩
theorem ZG0 {code:List UInt8}:smallW (bldD code).1∧(bldD code).2.length≤1048576:=by
 unfold bldD;generalize ((drawn (Cur.new code)).2.below 12).1=k;generalize ((drawn (Cur.new code)).2.below 12).2=c2;obtain ⟨s,ps0,pg0,next,view,ps,pg,hi,_,htx⟩:=ZFg (c:=c2);have hw:=htx.txs.ok.smallW hi.disk.pages_len;have hP:=(ZGz (c:=Cur.new code)).len;generalize (drawn (Cur.new code)).1=P at hP ⊢;refine ⟨?_,?_⟩
 ·unfold ZGx;split
  ·exact ⟨hw.1,by simp,hw.2.2.1,hw.2.2.2⟩
  ·exact hw
 ·unfold ZGv;split
  ·simp only [List.length_append,List.length_take];omega
  ·simp only;omega
theorem ZGK {l:List ZR} (h:l≠ []):¬ascK ((l++[(⟨[],[]⟩:ZR)]).map (·.Zi)):=fun ha=>by
 unfold ascK at ha;rw [List.map_append,List.pairwise_append] at ha;obtain ⟨p,r,rfl⟩:=List.exists_cons_of_ne_nil h;have:=ha.2.2 p.Zi (by simp) [] (by simp);cases hp:p.Zi<;>simp [hp,Zax,Op.bytesLess] at this
@[go_sem] def hr6:ZW:=hh [[0],[0],[],[0],[0,3],[0,3,4],[0,3,6],[0,3,6,7,8,9],[0,3,6,7,8,9,10],[0,3,6,7,8,9,10,11],[0,3,6,7,8,9,10,11],[0,3,6,7,8,9,10,11],[0,3,6,7,8,9,10,11],[0,3,6,7,8,9,10],[0,3,6,7,8,9,10],[0,3,7,8,9,10,14],[3,7,8,9,10,14,15,16],[3,7,8,9,10,14,15,16,17,18,19],[3,7,8,9,10,14,17,18,19,20,21,22]]
@[go_sem] def hl6:ZW:=hh [[],[],[],[],[],[],[],[],[],[0,3,6,7,8,9,10,11]]
attribute [go_sem] Go.Proofs.Tryz.results6
theorem ZGO (code:List UInt8) (hl:code.length≤1048576):ZQ Go.Proofs.Tryz.prog 6 [.d (.sl (bys code))] [] [.dead] (.d (.bool true)) []:=by
 refine cof Go.Proofs.Tryz.func6 hr6 hl6 [false] ?_;have hbig:decide ((1048576:Int)<(code.length:Int))=false:=decide_eq_false (by omega);have hok:=ZGz (c:=Cur.new code);have hlen:(ZGE code).length≤19:=hok.len;have hc19:cntL (ZGE code).length≤38:=by
  have:∀n,n≤19→cntL n≤38:=by
   intro n hn;have e1:∀m,m≤5→cntB m≤10:=by
    intro m hm;rw [cntB];split
    ·omega
    ·have:cntB ((m+3) / 4)≤3:=by
      rw [cntB];split
      ·omega
      ·rw [cntB,if_pos (by omega)];omega
     omega
   have:=e1 ((n+3) / 4) (by omega);unfold cntL;omega
  exact this _ hlen
 obtain ⟨w1,root,hb,hlin⟩:=ZFQ (l:=ZGE code) ZGM hok.asc (fun p hp=>by have:=hok.small p hp;omega) hc19;obtain ⟨_,hw1,pg,htree,_,_,_⟩:=ZlH ZGN hb;have hbv:Zkg ZGD (ZGE code)= .tup [.d (.agg w1.cells),.d (.int .i64 root),.d (.bool true)]:=by rw [Zkg,hb]
 have hsw:=Zb4 hw1.disk;have hrp:=Zbk hw1.disk;have hp1:=ZgV htree;have hfr:=hlin.fr;have hends:=ZGK (l:=ZGE code);simp -implicitDefEqProofs only [go_sem];refine kl_big code rfl ?_;simp -implicitDefEqProofs only [go_sem,hbig,ZT.cells];repeat ((first|refine rq ?_|refine wl ?_|refine gl ?_|refine ZGI code hl rfl ?_|refine Zd3 (xs:=[.int .i64 40]) ZGU (by simp -implicitDefEqProofs only [go_sem];first|done|rfl) rfl ?_|fail);simp -implicitDefEqProofs only [go_sem,hbig,ZT.cells])
 have hd40:=Zb4 ZGT;simp -implicitDefEqProofs only [go_sem,ZT.cells,ZGS,ZS.cells];repeat ((first|refine rq ?_|refine wl ?_|refine gl ?_|refine Zr7 d40 ⟨0,0,2,[]⟩ 0 hd40 (by simp) (by simp [Z5]) (by simp -implicitDefEqProofs only [go_sem,ZT.cells_eq,ZX.cells_eq,Z9,List.map_nil];first|done|rfl) ?_|fail);simp -implicitDefEqProofs only [go_sem,ZT.cells,ZGS,ZS.cells])
 generalize ZGE code=l at*;simp -implicitDefEqProofs only [go_sem,ZS.cells,hbv];repeat ((first|refine rq ?_|refine wl ?_|refine gl ?_|refine Zd3 (xs:=[.agg ZGD.cells,.sl (Zaj l)]) (ZGP ZGD l ZGR (by omega)) (by simp -implicitDefEqProofs only [go_sem,ZS.cells_eq];first|done|rfl) rfl ?_|fail);simp -implicitDefEqProofs only [go_sem,ZS.cells,hbv])
 have hN:remL l.length≤38:=by rw [ZGV];exact hc19
 refine ZY (α:=Nat×Nat) (fun x=>⟨[(0,.d (.sl (bys code))),(3,.d (.sl (Zaj l))),(6,.ref 0 0),(7,.ref 1 0),(8,.d (.int .i64 root)),(9,.d (.bool true)),(10,.d (.int .i64 x.2)),(11,.d (.int .i64 x.1))],[(0,some (.box [.d (.sl (strs ZGD.Zc.Zv)),.d (.sl (Zae ZGD.Zc.Zm)),.d (.int .i64 ZGD.Zs),.d (.sl (ints ZGD.ZH)),.d (.sl (ints ZGD.Zg)),.d (.sl (ints ZGD.Zf))])),(1,some (.box [.d (.sl (strs w1.Zc.Zv)),.d (.sl (Zae w1.Zc.Zm)),.d (.int .i64 w1.Zs),.d (.sl (ints w1.ZH)),.d (.sl (ints w1.Zg)),.d (.sl (ints w1.Zf))]))]⟩)
  (fun x=>x.1≤19∧x.2+remL x.1=remL l.length) (fun x=>x.1) (l.length,0) rfl ⟨hlen,by simp⟩ ?_
 rintro ⟨k,n⟩ ⟨k1,k2⟩;simp only at k1 k2;simp -implicitDefEqProofs only [go_sem];refine fork (fun h5=>?_) (fun h5=>?_)
 ·have hk0:0<k:=by omega
  have hst:=ZGW hk0;have a1:IntKind.i64.wrap ((k:Int)+4)=(k:Int)+4:=Zad (by omega) (by omega);have a2:IntKind.i64.wrap ((k:Int)+4 - 1)=((k+3:Nat):Int):=by rw [Zad (by omega) (by omega)];omega
  have a3:Int.tdiv ((k+3:Nat):Int) 4=(((k+3) / 4:Nat):Int):=by rw [Int.tdiv_eq_ediv_of_nonneg (by omega)];omega
  have a4:IntKind.i64.wrap ((((k+3) / 4:Nat):Int))=(((k+3) / 4:Nat):Int):=Zad (by omega) (by omega);have a5:IntKind.i64.wrap ((n:Int)+(((k+3) / 4:Nat):Int))=((n+(k+3) / 4:Nat):Int):=by rw [Zad (by omega) (by omega)];omega
  by_cases h1:(k+3) / 4=1
  ·have d1:decide ((((k+3) / 4:Nat):Int)=1)=true:=decide_eq_true (by omega);rw [if_pos h1] at hst;simp -implicitDefEqProofs only [go_sem,a1,a2,a3,a4,a5,d1];repeat ((first|refine rq ?_|refine wl ?_|refine gl ?_|fail);simp -implicitDefEqProofs only [go_sem,a1,a2,a3,a4,a5,d1])
   exact ZP (0,n+(k+3) / 4) rfl ⟨by simp,by simp only;omega⟩ (by simp only;omega)
  ·have d1:decide ((((k+3) / 4:Nat):Int)=1)=false:=decide_eq_false (by omega);rw [if_neg h1] at hst;simp -implicitDefEqProofs only [go_sem,a1,a2,a3,a4,a5,d1];repeat ((first|refine rq ?_|refine wl ?_|refine gl ?_|fail);simp -implicitDefEqProofs only [go_sem,a1,a2,a3,a4,a5,d1])
   exact ZP ((k+3) / 4,n+(k+3) / 4) rfl ⟨by simp only;omega,by simp only;omega⟩ (by simp only;omega)
 ·have hk0:k=0:=by omega
  subst hk0;have hn:n=w1.Zf.length:=by rw [hfr,←ZGV,←k2];simp [remL]
  obtain ⟨x2,y2,b2,hv2,hb2⟩:=ZGX (w:=ZGD) (l:=l++[⟨[],[]⟩]);have hl2:(l++[(⟨[],[]⟩:ZR)]).length≤1048576:=by simp;omega
  simp -implicitDefEqProofs only [go_sem];repeat ((first|refine rq ?_|refine wl ?_|refine gl ?_|fail);simp -implicitDefEqProofs only [go_sem,ZS.cells])
  refine ZvO (xs:=[.agg ZGD.cells,.sl (Zaj (l++[(⟨[],[]⟩:ZR)]))]) (by simp -implicitDefEqProofs only [go_sem,ZS.cells_eq];first|done|rfl) (ZGP ZGD (l++[(⟨[],[]⟩:ZR)]) ZGR hl2) rfl ?_;rw [hv2];simp -implicitDefEqProofs only [go_sem,ZS.cells];repeat ((first|refine rq ?_|refine wl ?_|refine gl ?_|refine ZGu code hl rfl ?_|fail);simp -implicitDefEqProofs only [go_sem,ZS.cells])
  obtain ⟨hbs,hbl⟩:=ZG0 (code:=code);generalize (bldD code).1=X at hbs ⊢;generalize (bldD code).2=L at hbl ⊢;obtain ⟨x3,y3,b3,hv3,hs3⟩:=ZGZ (l:=L) hbs;refine Zd3 (xs:=[.agg X.cells,.sl (Zaj L)]) (ZGP X L hbs hbl) (by simp -implicitDefEqProofs only [go_sem,ZS.cells_eq];first|done|rfl) rfl ?_;rw [hv3];have dn:decide ((w1.Zf.length:Int)=(n:Int))=true:=decide_eq_true (by omega);simp -implicitDefEqProofs only [go_sem,ZS.cells];repeat ((first|refine rq ?_|refine wl ?_|refine gl ?_|refine Zd3 (xs:=[.agg X.cells,.sl (Zaj L)]) (Zof X L hbs hbl) (by simp -implicitDefEqProofs only [go_sem,ZS.cells_eq];first|done|rfl) rfl ?_|fail);simp -implicitDefEqProofs only [go_sem,ZS.cells])
  rw [hv3];by_cases hl0:l.length=0
  ·have d0:decide ((l.length:Int)=0)=true:=decide_eq_true (by omega);have hz:True=True:=rfl;simp -implicitDefEqProofs only [go_sem,ZS.cells,ZT.cells,dn,d0,hz];repeat ((first|refine rq ?_|refine wl ?_|refine gl ?_|refine kl_pairs w1.Zc root l hp1 hsw.1 hsw.2 hrp (by simp -implicitDefEqProofs only [go_sem,ZT.cells_eq];first|done|rfl) ?_|refine ZBz l l (by simp only [LEN];omega) (by simp -implicitDefEqProofs only [go_sem];first|done|rfl) ?_|refine ks_TreeOk w1.Zc root htree hsw.1 hsw.2 hrp (by simp -implicitDefEqProofs only [go_sem,ZT.cells_eq];first|done|rfl) ?_|refine ZBn x3 hs3 (by simp -implicitDefEqProofs only [go_sem,ZS.cells_eq];first|done|rfl) ?_|fail);simp -implicitDefEqProofs only [go_sem,ZS.cells,ZT.cells,dn,d0,hz])
  ·have d0:decide ((l.length:Int)=0)=false:=decide_eq_false (by omega);have hz:b2=false:=hb2 (hends fun e=>hl0 (by rw [e];rfl));simp -implicitDefEqProofs only [go_sem,ZS.cells,ZT.cells,dn,d0,hz];repeat ((first|refine rq ?_|refine wl ?_|refine gl ?_|refine kl_pairs w1.Zc root l hp1 hsw.1 hsw.2 hrp (by simp -implicitDefEqProofs only [go_sem,ZT.cells_eq];first|done|rfl) ?_|refine ZBz l l (by simp only [LEN];omega) (by simp -implicitDefEqProofs only [go_sem];first|done|rfl) ?_|refine ks_TreeOk w1.Zc root htree hsw.1 hsw.2 hrp (by simp -implicitDefEqProofs only [go_sem,ZT.cells_eq];first|done|rfl) ?_|refine ZBn x3 hs3 (by simp -implicitDefEqProofs only [go_sem,ZS.cells_eq];first|done|rfl) ?_|fail);simp -implicitDefEqProofs only [go_sem,ZS.cells,ZT.cells,dn,d0,hz])
def kl_Builds (code:List UInt8) (hl:code.length≤1048576):=kf (ZGO code hl)
theorem ZG1 (code:List UInt8) (hl:code.length≤LEN) (hb:¬code.length≤1048576):ZQ Go.Proofs.Tryz.prog 6 [.d (.sl (bys code))] [] [.dead] (.d (.bool true)) []:=by
 refine cof Go.Proofs.Tryz.func6 hr6 hl6 [false] ?_;have hbig:decide ((1048576:Int)<(code.length:Int))=true:=decide_eq_true (by omega);simp -implicitDefEqProofs only [go_sem];refine kl_big code rfl ?_;simp -implicitDefEqProofs only [go_sem,hbig];repeat ((first|refine rq ?_|refine wl ?_|refine gl ?_|fail);simp -implicitDefEqProofs only [go_sem,hbig])
def klb_Builds (code:List UInt8) (hl:code.length≤LEN) (hb:¬code.length≤1048576):=kf (ZG1 code hl hb)
theorem cl_BuildsA (code:List UInt8) (h:code.length≤LEN∧∀x∈code,True):ZQ Go.Proofs.Tryz.prog 6 [.d (.sl (bys code))] [] [.dead] (.d (.bool true)) []:=
 if hl:code.length≤1048576 then ZGO code hl else ZG1 code h.1 hl
end Go.Rx
