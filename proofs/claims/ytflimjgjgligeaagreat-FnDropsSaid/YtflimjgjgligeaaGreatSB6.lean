/-
  Part B6: lemmas on an evaluator over plain data of the model's code, plain laws on lists and numbers, or contracts of functions of the program; each lemma names its conditions.
-/
import Derived.Test.YtflimjgjgligeaaGreatSB5
import Derived.Test.YtflimjgjgligeaaGreatSP3
import Derived.Test.YtflimjgjgligeaaGreatSP5

set_option linter.unusedSimpArgs false
set_option linter.unusedVariables false
set_option maxRecDepth 100000
set_option maxHeartbeats 16000000
set_option linter.defProp false
namespace Go.Rx
open Go
attribute [local irreducible] Req Way WayG Sel Z2 ZQ Zaz cVC Zai ZaO
def Zvq (w:ZS) (root:Int) (key:Key):V:=match Zn6 w root key with
 |some (w',r')=> .tup [.d (.agg w'.cells),.d (.int .i64 r'),.d (.bool true)]
 |none=> .tup [.d (.agg w.cells),.d (.int .i64 root),.d (.bool false)]
@[go_sem] def hr58:ZW:=hh [[0,1,2],[1,2,3,6],[1,2,3,6,9],[1,6,9],[1,2,3,6,9],[1,2,6,9,10],[1,6,9,10,11,12],[1,6,9],[6,10,11],[6,10,11],[6,10,11,13,14],[6,10,11],[6,10,11,13],[6,10,13],[6,10]]
@[go_sem] def hl58:ZW:=hh [[],[],[],[],[],[],[],[],[6,10,11]]
attribute [go_sem] Go.Proofs.Tryz.results58
theorem ZsR {ours:Int→Prop} {B:List Int} {ps:List ZR} {pg:List Int} (w:ZS) (root:Int) (key:Key) (hB:B.length≤1000) (hx:Txs ours B w root ps pg):ZQ Go.Proofs.Tryz.prog 58 [.d (.agg w.cells),.d (.int .i64 root),.d (.str key)] [] [.dead,.dead,.dead] (Zvq w root key) []:=by
 refine cofF Go.Proofs.Tryz.func58 hr58 hl58 ?_;have hsw:=hx.ok.smallW hB;simp -implicitDefEqProofs only [go_sem,ZS.cells];refine Zd3 (xs:=[.agg w.cells]) (Zd8 w hsw) (by simp -implicitDefEqProofs only [go_sem,ZS.cells_eq];first|done|rfl) rfl ?_;unfold Zvq Zn6;by_cases hr:root=0
 ·have dr:=decide_eq_true hr;rw [if_pos hr];simp -implicitDefEqProofs only [go_sem,dr,ZS.cells_eq];repeat ((first|refine rq ?_|refine way (fun h=>absurd h (by simp)) (fun _=>?_)|refine way (fun _=>?_) (fun h=>absurd h (by simp))|fail);simp -implicitDefEqProofs only [go_sem,dr,ZS.cells_eq])
 ·have dr:=decide_eq_false hr;rw [if_neg hr];rcases hx.tree with ⟨t1,_⟩|⟨t1,t2,hgt,fk,t3,t4⟩
  ·exact absurd t1 hr
  have hlv:∀q∈pg,live B w q:=fun q hq=>(hx.now q).2 hq
  have hput:=Zzq hB key 8 hgt w root fk ps pg (by omega) hx.ok t4 t2 hlv;simp -implicitDefEqProofs only [go_sem,dr,ZS.cells_eq];repeat ((first|refine rq ?_|refine way (fun h=>absurd h (by simp)) (fun _=>?_)|refine way (fun _=>?_) (fun h=>absurd h (by simp))|fail);simp -implicitDefEqProofs only [go_sem,dr,ZS.cells_eq])
  refine Zd3 (xs:=[.agg w.cells]) (Zd8 w hsw) (by simp -implicitDefEqProofs only [go_sem,ZS.cells_eq];first|done|rfl) rfl ?_;simp -implicitDefEqProofs only [go_sem,ZS.cells_eq];repeat ((first|refine rq ?_|fail);simp -implicitDefEqProofs only [go_sem,ZS.cells_eq])
  cases hu:Zhw 8 w root key with
  |none=>
   rw [hu] at hput;obtain ⟨w1,p1,hput⟩:=hput;unfold Zgh at hput;refine Za3 false (xs:=[.int .i64 root,.int .i64 0,.str key]) hput rfl rfl rfl (by simp -implicitDefEqProofs only [go_sem];first|done|rfl) rfl rfl rfl rfl (.inr (.inl rfl)) ?_;simp -implicitDefEqProofs only [go_sem,Z8];repeat ((first|refine rq ?_|refine way (fun h=>absurd h (by simp)) (fun _=>?_)|refine way (fun _=>?_) (fun h=>absurd h (by simp))|fail);simp -implicitDefEqProofs only [go_sem,Z8,ZS.cells_eq])
   try rfl
  |some r=>
   obtain ⟨w1,k⟩:=r;rw [hu] at hput;simp only at hput;unfold Zgh at hput;obtain ⟨_,pg1,r1⟩:=Zf6 hx.ok t4 t2 hlv hu;refine Za3 false (xs:=[.int .i64 root,.int .i64 0,.str key]) hput rfl rfl rfl (by simp -implicitDefEqProofs only [go_sem];first|done|rfl) rfl rfl rfl rfl (.inr (.inl rfl)) ?_;simp -implicitDefEqProofs only [go_sem,Z8];repeat ((first|refine rq ?_|refine way (fun h=>absurd h (by simp)) (fun _=>?_)|refine way (fun _=>?_) (fun h=>absurd h (by simp))|fail);simp -implicitDefEqProofs only [go_sem,Z8,ZS.cells_eq])
   have hbeg:k=0∨Zv8 ours B hgt w1 k:=by
    rcases r1.tre with ⟨c1,_⟩|⟨c1,f',c2,c3⟩
    ·exact .inl c1
    ·refine .inr ⟨c1,r1.ok,f',_,pg1,c3,r1.nodup,fun q=>?_⟩;rw [r1.now];constructor
     ·rintro (⟨h5,h6⟩|h5)
      ·exact absurd ((hx.now q).1 h5) h6
      ·exact h5
     ·exact .inr
   simp only [Option.map_some];refine ZY (α:=Nat×Nat×ZS×Int) (fun x=>⟨[(6,.ref 0 0),(10,.ref 6 0),(11,.d (.int .i64 x.2.2.2))],[(0,some (.box [.own 1 0 0,.own 2 0 0,.d (.int .i64 0),.own 3 0 0,.own 4 0 0,.own 5 0 0])),(1,some (.arr 1 [])),(2,some (.arr 2 [])),(3,some (.arr 1 [])),(4,some (.arr 1 [])),(5,some (.arr 1 [])),(6,some (.box [.d (.sl (strs x.2.2.1.Zc.Zv)),.d (.sl (Zae x.2.2.1.Zc.Zm)),.d (.int .i64 x.2.2.1.Zs),.d (.sl (ints x.2.2.1.ZH)),.d (.sl (ints x.2.2.1.Zg)),.d (.sl (ints x.2.2.1.Zf))]))]⟩)
    (fun x=>topU x.1 x.2.2.1 x.2.2.2=topU 8 w1 k∧(x.2.2.2=0∨x.2.1<x.1∧Zv8 ours B x.2.1 x.2.2.1 x.2.2.2)) (fun x=>x.1) (8,hgt,w1,k) rfl ⟨rfl,hbeg.imp id fun h=>⟨t3,h⟩⟩ ?_
   rintro ⟨f,h1,u,top⟩ ⟨i1,i2⟩;simp only at i1 i2;by_cases h0:top=0
   ·have d0:=decide_eq_true h0;subst h0;have:topU f u 0=(u,0):=by cases f<;>rfl
    rw [this] at i1;rw [←i1];simp -implicitDefEqProofs only [go_sem,d0];repeat ((first|refine rq ?_|refine way (fun h=>absurd h (by simp)) (fun _=>?_)|refine way (fun _=>?_) (fun h=>absurd h (by simp))|fail);simp -implicitDefEqProofs only [go_sem,d0,ZS.cells_eq])
    try rfl
   ·have d0:=decide_eq_false h0;obtain ⟨i2,i3⟩:=i2.resolve_left h0;obtain ⟨f,rfl⟩:∃g,f=g+1:=⟨f - 1,by omega⟩;obtain ⟨n,hrd,hn⟩:=i3.node;have hrn:ZaH (ZU u.Zc top)=some n:=hrd;have hsu:=i3.ok.smallW hB;have hok:=Zcx _ _ hrd;have hk4:=hok.2.1;simp -implicitDefEqProofs only [go_sem,d0];repeat ((first|refine rq ?_|refine way (fun h=>absurd h (by simp)) (fun _=>?_)|refine way (fun _=>?_) (fun h=>absurd h (by simp))|fail);simp -implicitDefEqProofs only [go_sem,d0])
    refine Zal u.Zc top (by have:=hsu.1.1;omega) (by have:=hsu.1.2;omega) rfl ?_;simp -implicitDefEqProofs only [go_sem];refine Zas (ZU u.Zc top) (by have:=Zay i3.ok.disk top;omega) rfl ?_;rw [hrn];simp only [ZaE];rcases hn with hleaf|⟨hleaf,hn|⟨hn,h',rfl,hn2⟩⟩
    ·rw [ZmI h0 hrd (.inl hleaf)] at i1;rw [←i1];simp -implicitDefEqProofs only [go_sem,hleaf];repeat ((first|refine rq ?_|refine way (fun h=>absurd h (by simp)) (fun _=>?_)|refine way (fun _=>?_) (fun h=>absurd h (by simp))|fail);simp -implicitDefEqProofs only [go_sem,hleaf,ZS.cells_eq])
     try rfl
    ·have d1:decide ((1:Int)<n.Zk.length)=true:=decide_eq_true (by omega);rw [ZmI h0 hrd (.inr hn)] at i1;rw [←i1];simp -implicitDefEqProofs only [go_sem,hleaf,d1];repeat ((first|refine rq ?_|refine way (fun h=>absurd h (by simp)) (fun _=>?_)|refine way (fun _=>?_) (fun h=>absurd h (by simp))|fail);simp -implicitDefEqProofs only [go_sem,hleaf,d1,ZS.cells_eq])
     try rfl
    ·have d1:decide ((1:Int)<n.Zk.length)=false:=decide_eq_false (by omega);rw [ZyB h0 hrd (by rw [hleaf];simp;omega)] at i1;have hk0:lget (ints n.Zk) 0=[.int .i64 (n.Zk.headD 0)]:=by
      cases hh:n.Zk with
      |nil=>rw [hh] at hn;simp at hn
      |cons a b=>rfl
     have hde:=ZcL (p:=top) i3.ok;simp -implicitDefEqProofs only [go_sem,hleaf,d1];repeat ((first|refine rq ?_|refine way (fun h=>absurd h (by simp)) (fun _=>?_)|refine way (fun _=>?_) (fun h=>absurd h (by simp))|refine Zbp u top hsu (by simp -implicitDefEqProofs only [go_sem,ZS.cells_eq];first|done|rfl) ?_|fail);simp -implicitDefEqProofs only [go_sem,hleaf,d1,ZS.cells_eq,hk0])
     rw [hde];exact ZP (f,h',ZbP u top,n.Zk.headD 0) rfl ⟨i1,.inr ⟨by simp only;omega,hn2⟩⟩ (by simp only;omega)
def optV:Option Key→V
 |some v=> .tup [.d (.str v),.d (.bool true)]
 |none=> .tup [.d (.str []),.d (.bool false)]
theorem Zuh {l:List Key} {key:Key}:Zbe l key<l.length:=by
 rcases Zdg l key with ⟨h1,_⟩|⟨a,k,b,h1,h2,_⟩
 ·omega
 ·rw [h2,h1];simp;omega
@[go_sem] def hr59:ZW:=hh [[0,1,2],[1,2,3],[1,2,3,8],[1,2,3,8],[1,2,3,8],[2,3,8,9,10],[2,3,8,9,10,11],[],[2,3,8,9,11],[2,9,11],[],[9,11],[2,3,8,9,11],[]]
@[go_sem] def hl59:ZW:=hh [[],[],[1,2,3,8]]
attribute [go_sem] Go.Proofs.Tryz.results59
theorem ZvF (d:ZT) (root:Int) (key:Key) (h1:d.Zv.length≤1048576) (h2:d.Zm.length≤1048576) (hsm:∀p,(ZU d p).length≤1048576):ZQ Go.Proofs.Tryz.prog 59 [.d (.agg d.cells),.d (.int .i64 root),.d (.str key)] [] [.dead,.dead,.dead] (optV (getW d 8 root key)) []:=by
 refine cof Go.Proofs.Tryz.func59 hr59 hl59 [false,false,false] ?_;simp -implicitDefEqProofs only [go_sem,ZT.cells];refine ZY (α:=Nat×Int) (fun x=>⟨[(1,.d (.int .i64 x.2)),(2,.d (.str key)),(3,.ref 0 0),(8,.d (.int .i64 (x.1:Nat)))],[(0,some (.box [.d (.sl (strs d.Zv)),.d (.sl (Zae d.Zm))]))]⟩)
  (fun x=>x.1≤8∧getW d (8 - x.1) x.2 key=getW d 8 root key) (fun x=>8 - x.1) (0,root) rfl ⟨by simp,rfl⟩ ?_
 rintro ⟨k,p⟩ ⟨k1,k2⟩;simp only at k1 k2;by_cases h8:k=8
 ·subst h8;have d8:decide ((((8:Nat):Int))<8)=false:=rfl;have:getW d 8 root key=none:=by rw [←k2];unfold getW;split<;>rfl
  rw [this];simp -implicitDefEqProofs only [go_sem,d8];repeat ((first|refine rq ?_|refine wl ?_|refine gl ?_|fail);simp -implicitDefEqProofs only [go_sem,d8])
  rfl
 have d8:decide (((k:Nat):Int)<8)=true:=decide_eq_true (by omega);by_cases hp:p=0
 ·have dp:decide (p=0)=true:=decide_eq_true hp;have:getW d 8 root key=none:=by rw [←k2,getW,if_pos hp]
  rw [this];simp -implicitDefEqProofs only [go_sem,d8,dp];repeat ((first|refine rq ?_|refine wl ?_|refine gl ?_|fail);simp -implicitDefEqProofs only [go_sem,d8,dp])
  rfl
 have dp:decide (p=0)=false:=decide_eq_false hp;obtain ⟨f,hf⟩:∃f,8 - k=f+1:=⟨7 - k,by omega⟩;rw [hf] at k2;unfold getW at k2;rw [if_neg hp,getK] at k2;simp -implicitDefEqProofs only [go_sem,d8,dp];repeat ((first|refine rq ?_|refine wl ?_|refine gl ?_|fail);simp -implicitDefEqProofs only [go_sem,d8,dp])
 refine Zal d p (by omega) (by omega) rfl ?_;simp -implicitDefEqProofs only [go_sem];refine Zas (ZU d p) (by have:=hsm p;omega) rfl ?_;cases hrn:ZaH (ZU d p) with
 |none=>
  have hrd:rdW d p=none:=hrn;rw [hrd] at k2;simp only [ZfW];simp -implicitDefEqProofs only [go_sem];repeat ((first|refine rq ?_|refine wl ?_|refine gl ?_|refine ZaT ⟨false,[],[],[]⟩ key (by simp [LEN]) (ls:=[]) (by simp -implicitDefEqProofs only [go_sem,Z1.cells_eq];first|done|rfl) ?_|fail);simp -implicitDefEqProofs only [go_sem])
  unfold getW;rw [←k2];rfl
 |some n=>
  have hrd:rdW d p=some n:=hrn;have hok:=Zcx _ _ hrd;have hk4:=hok.2.1;have hlt:= @Zuh n.Zj key;rw [hrd] at k2;simp only at k2;simp only [ZaE];by_cases ha:Zbe n.Zj key<0
  ·have da:decide (Zbe n.Zj key<0)=true:=decide_eq_true ha;rw [if_pos ha] at k2;simp -implicitDefEqProofs only [go_sem,da];repeat ((first|refine rq ?_|refine wl ?_|refine gl ?_|refine ZaT n key (by simp only [LEN];omega) (ls:=[]) (by simp -implicitDefEqProofs only [go_sem,Z1.cells_eq];first|done|rfl) ?_|fail);simp -implicitDefEqProofs only [go_sem,da])
   unfold getW;rw [←k2];rfl
  ·have da:decide (Zbe n.Zj key<0)=false:=decide_eq_false ha;rw [if_neg ha] at k2;obtain ⟨i,hi⟩:∃i:Nat,Zbe n.Zj key=i:=⟨(Zbe n.Zj key).toNat,by omega⟩;rw [hi] at da k2 hlt;rw [Int.toNat_natCast] at k2;obtain ⟨ki,hki⟩:∃ki,n.Zj[i]? =some ki:=⟨_,List.getElem?_eq_getElem (by omega)⟩;have gk:n.Zj.getD i []=ki:=by rw [List.getD_eq_getElem?_getD,hki];rfl
   have hlay:=hok.2.2.2.2;cases hleaf:n.Zn with
   |true=>
    rw [hleaf] at hlay k2;simp only [if_true] at hlay k2;obtain ⟨vi,hvi⟩:∃vi,n.ZJ[i]? =some vi:=⟨_,List.getElem?_eq_getElem (by omega)⟩;have gv:n.ZJ.getD i []=vi:=by rw [List.getD_eq_getElem?_getD,hvi];rfl
    rw [gk,gv] at k2;by_cases hkk:ki=key
    ·have dkk:decide (ki=key)=true:=decide_eq_true hkk;rw [if_pos hkk] at k2;simp -implicitDefEqProofs only [go_sem,da,hleaf,hi,ZM hki,ZM hvi,dkk];repeat ((first|refine rq ?_|refine wl ?_|refine gl ?_|refine ZaT n key (by simp only [LEN];omega) (ls:=[]) (by simp -implicitDefEqProofs only [go_sem,Z1.cells_eq,hleaf];first|done|rfl) ?_|fail);simp -implicitDefEqProofs only [go_sem,da,hleaf,hi,ZM hki,ZM hvi,dkk])
     unfold getW;rw [←k2];rfl
    ·have dkk:decide (ki=key)=false:=decide_eq_false hkk;rw [if_neg hkk] at k2;simp -implicitDefEqProofs only [go_sem,da,hleaf,hi,ZM hki,ZM hvi,dkk];repeat ((first|refine rq ?_|refine wl ?_|refine gl ?_|refine ZaT n key (by simp only [LEN];omega) (ls:=[]) (by simp -implicitDefEqProofs only [go_sem,Z1.cells_eq,hleaf];first|done|rfl) ?_|fail);simp -implicitDefEqProofs only [go_sem,da,hleaf,hi,ZM hki,ZM hvi,dkk])
     unfold getW;rw [←k2];rfl
   |false=>
    rw [hleaf] at hlay k2;simp only [Bool.false_eq_true,if_false] at hlay k2;obtain ⟨ci,hci⟩:∃ci,n.Zk[i]? =some ci:=⟨_,List.getElem?_eq_getElem (by omega)⟩;have gc:n.Zk.getD i 0=ci:=by rw [List.getD_eq_getElem?_getD,hci];rfl
    have hc0:ci≠0:=by have:=hlay.2.2.1 ci (List.mem_of_getElem? hci);omega
    rw [gc] at k2;simp -implicitDefEqProofs only [go_sem,da,hleaf,hi,ZM hki,ZO hci];repeat ((first|refine rq ?_|refine wl ?_|refine gl ?_|refine ZaT n key (by simp only [LEN];omega) (ls:=[]) (by simp -implicitDefEqProofs only [go_sem,Z1.cells_eq,hleaf];first|done|rfl) ?_|fail);simp -implicitDefEqProofs only [go_sem,da,hleaf,hi,ZM hki,ZO hci])
    have hw:IntKind.i64.wrap ((k:Int)+1)=((k+1:Nat):Int):=ZV (by simp only [LEN];omega);rw [hw];refine ZP (k+1,ci) rfl ⟨by simp only;omega,?_⟩ (by simp only;omega);have e1:8 - (k+1)=f:=by omega
    simp only;rw [e1,getW,if_neg hc0,k2];rfl
def ZfA (d:ZT) (root:Int) (key:Key) (h1:d.Zv.length≤1048576) (h2:d.Zm.length≤1048576) (hsm:∀p,(ZU d p).length≤1048576):=kf (ZvF d root key h1 h2 hsm)
end Go.Rx
