/-
  Part Q8: lemmas on an evaluator over plain data of the model's code, plain laws on lists and numbers, or contracts of functions of the program; each lemma names its conditions.
-/
import Derived.Test.YtflimjgjgligeaaGreatSA1
import Derived.Test.YtflimjgjgligeaaGreatSB1
import Derived.Test.YtflimjgjgligeaaGreatSB6
import Derived.Test.YtflimjgjgligeaaGreatSE1
import Derived.Test.YtflimjgjgligeaaGreatSE3
import Derived.Test.YtflimjgjgligeaaGreatSE4
import Derived.Test.YtflimjgjgligeaaGreatSE6
import Derived.Test.YtflimjgjgligeaaGreatSKJ
import Derived.Test.YtflimjgjgligeaaGreatSP1
import Derived.Test.YtflimjgjgligeaaGreatSP2
import Derived.Test.YtflimjgjgligeaaGreatSP3
import Derived.Test.YtflimjgjgligeaaGreatSQ7
import Derived.Test.YtflimjgjgligeaaGreatSQY
import Derived.Test.YtflimjgjgligeaaGreatSR0

set_option linter.unusedSimpArgs false
set_option linter.unusedVariables false
set_option maxRecDepth 100000
set_option maxHeartbeats 16000000
set_option linter.defProp false
namespace Go.Rx
open Go
attribute [local irreducible] Req Way WayG Sel Z2 ZQ Zaz cVC Zai ZaO
theorem fz_wkD {P:Program} {f:FuncId} {args outs:List V} {w:ZS} {res:V} (hr:res=(ofW w).v) (hc:ZQ P f args [] outs res (ofW w).h) (ho:(outs.all fun x=>match x with| .dead=>true|_=>false)=true):ZQ P f args [] outs (.d (.agg w.cells)) []:=by
 subst hr;exact ZnL (ls:=[0,1,2,3,4]) hc (by simp [ZbC,toDs,toD,cD,cDs,hget,OW.v_eq,OW.h_eq,ofW,ZS.cells,Zdz,Zby,ZfJ]) ho
theorem ZHf (w:ZS) (hw:smallW w):ZQ Go.Proofs.Tryz.prog 98 [.d (.agg w.cells)] [] [.dead] (.d (.agg w.cells)) []:=fz_wkD (by simp [OW.v_eq,ofW]) (ZDQ w hw) rfl
@[go_sem] def hr57:ZW:=hh [[0,1,2],[1,2,3,6],[1,2,3,6,9],[1,2,3,6,9,10],[1,3,6,9,10],[1,2,3,6,9],[1,3,6,9,10],[1,3,6,9,10],[1,3,6,9,10,11],[1,3,6,9,10,11],[1,3,6,9,11],[1,3,6,9,10],[1,3,6],[6,9,10]]
@[go_sem] def hl57:ZW:=hh [[],[],[],[],[],[],[1,3,6,9,10]]
attribute [go_sem] Go.Proofs.Tryz.results57
theorem ZHg {ours:Int→Prop} {B:List Int} {ps:List ZR} {pg:List Int} (w:ZS) (root:Int) (key:Key) (hB:B.length≤1000) (hx:Txs ours B w root ps pg):ZQ Go.Proofs.Tryz.prog 57 [.d (.agg w.cells),.d (.int .i64 root),.d (.str key)] [] [.dead,.dead,.dead] (Zvq w root key) []:=by
 refine cofF Go.Proofs.Tryz.func57 hr57 hl57 ?_;have hsw:=hx.ok.smallW hB;unfold Zvq;by_cases hr:root=0
 ·have dr:=decide_eq_true hr;have hk:Zn6 w root key=none:=by rw [Zn6,if_pos hr]
  rw [hk];simp -implicitDefEqProofs only [go_sem,ZS.cells,dr];refine Zd3 (xs:=[.agg w.cells]) (ZHf w hsw) (by simp -implicitDefEqProofs only [go_sem,ZS.cells_eq];first|done|rfl) rfl ?_;simp -implicitDefEqProofs only [go_sem,ZS.cells,dr];repeat ((first|refine rq ?_|refine wl ?_|refine gl ?_|fail);simp -implicitDefEqProofs only [go_sem,ZS.cells,dr])
  refine ZY (α:=Unit) (fun _=>⟨[(1,.d (.int .i64 root)),(3,.ref 0 0),(6,.ref 1 0),(9,.ref 7 0),(10,.d (.int .i64 0))],[(0,some (.box [.d (.sl (strs w.Zc.Zv)),.d (.sl (Zae w.Zc.Zm)),.d (.int .i64 w.Zs),.d (.sl (ints w.ZH)),.d (.sl (ints w.Zg)),.d (.sl (ints w.Zf))])),(1,some (.box [.own 2 0 0,.own 3 0 0,.d (.int .i64 0),.own 4 0 0,.own 5 0 0,.own 6 0 0])),(2,some (.arr 1 [])),(3,some (.arr 2 [])),(4,some (.arr 1 [])),(5,some (.arr 1 [])),(6,some (.arr 1 [])),(7,some (.box (cB (w) true)))]⟩) (fun _=>True) (fun _=>0) () rfl trivial ?_;rintro ⟨⟩ _;simp -implicitDefEqProofs only [go_sem,ZEf]
  repeat ((first|refine rq ?_|refine wl ?_|refine gl ?_|fail);simp -implicitDefEqProofs only [go_sem,ZEf])
  refine Zd3 (xs:=[.agg w.cells]) (ZHf w hsw) (by simp -implicitDefEqProofs only [go_sem,ZS.cells_eq];first|done|rfl) rfl ?_;simp -implicitDefEqProofs only [go_sem,ZS.cells];repeat ((first|refine rq ?_|refine wl ?_|refine gl ?_|fail);simp -implicitDefEqProofs only [go_sem,ZS.cells])
  try rfl
 ·have dr:=decide_eq_false hr;obtain ⟨h,fk,h8,ht,hn,hl8⟩:∃h fk,h<8∧Tre (rdW w.Zc) h root fk ps pg∧pg.Nodup∧∀q∈pg,live B w q:=by
   rcases hx.tree with ⟨h0,_⟩|⟨_,hn,h,f,h8,ht⟩
   ·exact absurd h0 hr
   ·exact ⟨h,f,h8,ht,hn,fun q hq=>(hx.now q).2 hq⟩
  have hU:=ci_without hB key 8 h w root fk ps pg (by omega) hx.ok ht hn hl8;simp -implicitDefEqProofs only [go_sem,ZS.cells,dr];refine Zd3 (xs:=[.agg w.cells]) (ZHf w hsw) (by simp -implicitDefEqProofs only [go_sem,ZS.cells_eq];first|done|rfl) rfl ?_;simp -implicitDefEqProofs only [go_sem,ZS.cells,dr];repeat ((first|refine rq ?_|refine wl ?_|refine gl ?_|fail);simp -implicitDefEqProofs only [go_sem,ZS.cells,dr])
  rw [Zn6,if_neg hr];cases hu:Zhw 8 w root key with
  |none=>
   rw [hu] at hU;obtain ⟨w1,hsw1,hU⟩:=hU;unfold ZG7 at hU;refine Za3 false (xs:=[.int .i64 root,.int .i64 1,.str key]) hU rfl rfl rfl (by simp -implicitDefEqProofs only [go_sem];first|done|rfl) rfl rfl rfl rfl (.inr (.inl rfl)) ?_;simp -implicitDefEqProofs only [go_sem,ZEf];simp only [Option.map_none];refine ZY (α:=Unit) (fun _=>⟨[(1,.d (.int .i64 root)),(3,.ref 0 0),(6,.ref 1 0),(9,.ref 7 0),(10,.d (.int .i64 0))],[(0,some (.box [.d (.sl (strs w.Zc.Zv)),.d (.sl (Zae w.Zc.Zm)),.d (.int .i64 w.Zs),.d (.sl (ints w.ZH)),.d (.sl (ints w.Zg)),.d (.sl (ints w.Zf))])),(1,some (.box [.own 2 0 0,.own 3 0 0,.d (.int .i64 0),.own 4 0 0,.own 5 0 0,.own 6 0 0])),(2,some (.arr 1 [])),(3,some (.arr 2 [])),(4,some (.arr 1 [])),(5,some (.arr 1 [])),(6,some (.arr 1 [])),(7,some (.box (cB (w1) true)))]⟩) (fun _=>True) (fun _=>0) () rfl trivial ?_
   rintro ⟨⟩ _;simp -implicitDefEqProofs only [go_sem,ZEf];repeat ((first|refine rq ?_|refine wl ?_|refine gl ?_|fail);simp -implicitDefEqProofs only [go_sem,ZEf])
   refine Zd3 (xs:=[.agg w.cells]) (ZHf w hsw) (by simp -implicitDefEqProofs only [go_sem,ZS.cells_eq];first|done|rfl) rfl ?_;simp -implicitDefEqProofs only [go_sem,ZS.cells];repeat ((first|refine rq ?_|refine wl ?_|refine gl ?_|fail);simp -implicitDefEqProofs only [go_sem,ZS.cells])
   try rfl
  |some r=>
   obtain ⟨w1,p⟩:=r;rw [hu] at hU;simp only at hU;unfold ZG7 at hU;obtain ⟨_,pg1,hdr⟩:=Zf6 hx.ok ht hn hl8 hu;refine Za3 false (xs:=[.int .i64 root,.int .i64 1,.str key]) hU rfl rfl rfl (by simp -implicitDefEqProofs only [go_sem];first|done|rfl) rfl rfl rfl rfl (.inr (.inl rfl)) ?_;simp -implicitDefEqProofs only [go_sem,ZEf];have hbeg:p=0∨Zv8 ours B h w1 p:=by
    rcases hdr.tre with ⟨c1,_⟩|⟨c1,f',c2,c3⟩
    ·exact .inl c1
    ·refine .inr ⟨c1,hdr.ok,f',_,pg1,c3,hdr.nodup,fun q=>?_⟩;rw [hdr.now];constructor
     ·rintro (⟨h5,h6⟩|h5)
      ·exact absurd ((hx.now q).1 h5) h6
      ·exact h5
     ·exact .inr
   simp only [Option.map_some];refine ZY (α:=Nat×Nat×ZS×Int) (fun x=>⟨[(1,.d (.int .i64 root)),(3,.ref 0 0),(6,.ref 1 0),(9,.ref 7 0),(10,.d (.int .i64 x.2.2.2))],[(0,some (.box [.d (.sl (strs w.Zc.Zv)),.d (.sl (Zae w.Zc.Zm)),.d (.int .i64 w.Zs),.d (.sl (ints w.ZH)),.d (.sl (ints w.Zg)),.d (.sl (ints w.Zf))])),(1,some (.box [.own 2 0 0,.own 3 0 0,.d (.int .i64 0),.own 4 0 0,.own 5 0 0,.own 6 0 0])),(2,some (.arr 1 [])),(3,some (.arr 2 [])),(4,some (.arr 1 [])),(5,some (.arr 1 [])),(6,some (.arr 1 [])),(7,some (.box (cB (x.2.2.1) false)))]⟩)
    (fun x=>topU x.1 x.2.2.1 x.2.2.2=topU 8 w1 p∧(x.2.2.2=0∨x.2.1<x.1∧Zv8 ours B x.2.1 x.2.2.1 x.2.2.2)) (fun x=>x.1) (8,h,w1,p) rfl ⟨rfl,hbeg.imp id fun h=>⟨h8,h⟩⟩ ?_
   rintro ⟨f,h1,u,top⟩ ⟨i1,i2⟩;simp only at i1 i2;by_cases h0:top=0
   ·have d0:=decide_eq_true h0;subst h0;have:topU f u 0=(u,0):=by cases f<;>rfl
    rw [this] at i1;rw [←i1];simp -implicitDefEqProofs only [go_sem,d0,ZEf];repeat ((first|refine rq ?_|refine wl ?_|refine gl ?_|fail);simp -implicitDefEqProofs only [go_sem,d0,ZEf,ZS.cells_eq])
    try rfl
   ·have d0:=decide_eq_false h0;obtain ⟨i2,i3⟩:=i2.resolve_left h0;obtain ⟨f,rfl⟩:∃g,f=g+1:=⟨f - 1,by omega⟩;obtain ⟨n,hrd,hn⟩:=i3.node;have hsu:=i3.ok.smallW hB;have hok:=Zcx _ _ hrd;have hk4:=hok.2.1;have hrp:(ZU u.Zc top).length≤1048576:=by have:=Zay i3.ok.disk top;omega
    simp -implicitDefEqProofs only [go_sem,d0,ZEf];repeat ((first|refine rq ?_|refine wl ?_|refine gl ?_|fail);simp -implicitDefEqProofs only [go_sem,d0,ZEf])
    refine ZFv u false top hsu.1 hrp rfl rfl rfl rfl ?_;rw [hrd];simp -implicitDefEqProofs only [go_sem,ZEf,ZFu,Option.isNone_some,Option.getD_some,Bool.or_false];rcases hn with hleaf|⟨hleaf,hn|⟨hn,h',rfl,hn2⟩⟩
    ·rw [ZmI h0 hrd (.inl hleaf)] at i1;rw [←i1];simp -implicitDefEqProofs only [go_sem,hleaf,ZEf];repeat ((first|refine rq ?_|refine wl ?_|refine gl ?_|fail);simp -implicitDefEqProofs only [go_sem,hleaf,ZEf,ZS.cells_eq])
     try rfl
    ·have d1:decide ((1:Int)<n.Zk.length)=true:=decide_eq_true (by omega);rw [ZmI h0 hrd (.inr hn)] at i1;rw [←i1];simp -implicitDefEqProofs only [go_sem,hleaf,d1,ZEf];repeat ((first|refine rq ?_|refine wl ?_|refine gl ?_|fail);simp -implicitDefEqProofs only [go_sem,hleaf,d1,ZEf,ZS.cells_eq])
     try rfl
    ·have d1:decide ((1:Int)<n.Zk.length)=false:=decide_eq_false (by omega);rw [ZyB h0 hrd (by rw [hleaf];simp;omega)] at i1;have hk0:lget (ints n.Zk) 0=[.int .i64 (n.Zk.headD 0)]:=by
      cases hh:n.Zk with
      |nil=>rw [hh] at hn;simp at hn
      |cons a b=>rfl
     simp -implicitDefEqProofs only [go_sem,hleaf,d1,ZEf];repeat ((first|refine rq ?_|refine wl ?_|refine gl ?_|fail);simp -implicitDefEqProofs only [go_sem,hleaf,d1,ZEf])
     refine ZFy u false top hsu rfl rfl rfl rfl ?_;simp -implicitDefEqProofs only [go_sem,ZEf,hk0];repeat ((first|refine rq ?_|refine wl ?_|refine gl ?_|fail);simp -implicitDefEqProofs only [go_sem,ZEf,hk0])
     exact ZP (f,h',ZbP u top,n.Zk.headD 0) rfl ⟨i1,.inr ⟨by simp only;omega,hn2⟩⟩ (by simp only;omega)
def ki_DropKey {ours:Int→Prop} {B:List Int} {ps:List ZR} {pg:List Int} (w:ZS) (root:Int) (key:Key) (hB:B.length≤1000) (hx:Txs ours B w root ps pg):=kf (ZHg w root key hB hx)
end Go.Rx

