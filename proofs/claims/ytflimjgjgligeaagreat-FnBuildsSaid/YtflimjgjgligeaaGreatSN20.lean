/-
  Part N20: lemmas on an evaluator over plain data of the model's code, plain laws on lists and numbers, or contracts of functions of the program; each lemma names its conditions.
-/
import Derived.Test.YtflimjgjgligeaaGreatSA1
import Derived.Test.YtflimjgjgligeaaGreatSA6
import Derived.Test.YtflimjgjgligeaaGreatSA8
import Derived.Test.YtflimjgjgligeaaGreatSB1
import Derived.Test.YtflimjgjgligeaaGreatSE1
import Derived.Test.YtflimjgjgligeaaGreatSE2
import Derived.Test.YtflimjgjgligeaaGreatSE4
import Derived.Test.YtflimjgjgligeaaGreatSE6
import Derived.Test.YtflimjgjgligeaaGreatSG3
import Derived.Test.YtflimjgjgligeaaGreatSNC
import Derived.Test.YtflimjgjgligeaaGreatSP1
import Derived.Test.YtflimjgjgligeaaGreatSP2
import Derived.Test.YtflimjgjgligeaaGreatSP3
import Derived.Test.YtflimjgjgligeaaGreatSP4
import Derived.Test.YtflimjgjgligeaaGreatSP5
import Derived.Test.YtflimjgjgligeaaGreatSR0

set_option linter.unusedSimpArgs false
set_option linter.unusedVariables false
set_option maxRecDepth 100000
set_option maxHeartbeats 16000000
set_option linter.defProp false
namespace Go.Rx
open Go Go.RowKit
section
variable {P:Program} {h:Heap} {tb:Nat} {f:FuncId} {args:List V} {K:OK} {xs:List D} {ls:List Nat} {res:V} {H':List (Nat×AObj)}
end
theorem ZGy {h:Heap}:toDs h []=some ([],[]):=rfl
section
variable {w:World} {ok:Nat→Prop} {lam:Nat→Option Nat} {h:Heap}
end
end Go.Rx

namespace Go.Rx
open Go
def asc (l:List ZR):Prop:=l.Pairwise fun p q=>Zax p.Zi q.Zi=true
instance {l:List ZR}:Decidable (asc l):=by unfold asc;infer_instance
end Go.Rx

namespace Go.Rx
open Go
theorem Cur.pick_mem {c:Cur} {l:List (List UInt8)} (h:l≠ []):(c.pick l).1∈l:=by
 have hl:0<l.length:=List.length_pos_iff.2 h;have:=Cur.below_range (c:=c) (n:=l.length) (by omega);unfold Cur.pick;simp only;rw [List.getD_eq_getElem?_getD,List.getElem?_eq_getElem (by omega),Option.getD_some];exact List.getElem_mem _
theorem Cur.key_mem {c:Cur}:c.key.1∈keyL:=Cur.pick_mem (by decide)
theorem ZGs:∀s∈keyL,s.length≤1:=by decide
theorem Cur.key_small {c:Cur}:c.key.1.length≤1:=ZGs _ Cur.key_mem
theorem ZGh {c:Cur} {l:List (List UInt8)} (h:l≠ []) (hl:∀s∈l,s.length≤1):(c.pick l).1.length≤1:=hl _ (Cur.pick_mem h)
theorem ZGl {f i:Nat} {c:Cur} {l:List ZR} (h:¬(i:Int)<(c.below 20).1):Zuj f i c l=(l,(c.below 20).2):=by
 cases f with
 |zero=>rfl
 |succ f=>simp only [Zuj,if_neg h]
theorem ZGr {i:Nat} {c:Cur} {l:List ZR} (h:(i:Int)<(c.below 20).1):Zuj (20 - i) i c l=Zuj (20 - (i+1)) (i+1) (Zqx (c.below 20).2 l).2 (Zqx (c.below 20).2 l).1:=by
 have:=(Cur.below_range (c:=c) (n:=20) (by decide)).2;have e:20 - i=(20 - (i+1))+1:=by omega
 rw [e]
 conv=>lhs;rw [Zuj]
 rw [if_pos h]
structure ZGk (l:List ZR) (n:Nat):Prop where
 asc:ascP l
 len:l.length≤n
 small:∀p∈l,p.Zi.length≤2∧p.ZI.length≤1
theorem ZGm {c:Cur} {l:List ZR} {n:Nat} (h:ZGk l n):ZGk (Zqx c l).1 (n+1):=by
 refine ⟨Zv0 h.asc,Nat.le_trans Zuy (by have:=h.len;omega),fun p hp=>?_⟩;rcases ZwV hp with hp|rfl
 ·exact h.small p hp
 ·have b1:=Cur.key_small (c:=c);have b2:=ZGh (c:=c.key.2) (l:=[[],[49]]) (by decide) (by decide);have b3:=ZGh (c:=(c.key.2.pick [[],[49]]).2) (l:=[[],[118]]) (by decide) (by decide);exact ⟨by simp only [List.length_append];omega,b3⟩
theorem ZGq {f:Nat}:∀ {i:Nat} {c:Cur} {l:List ZR} {n:Nat},ZGk l n→n≤i→i≤19→i+f=20→ZGk (Zuj f i c l).1 19:=by
 induction f with
 |zero=>intro i c l n h hn h19 hi;omega
 |succ f ih=>
  intro i c l n h hn h19 hi;rw [Zuj];have hr:=(Cur.below_range (c:=c) (n:=20) (by decide)).2;split
  ·rename_i hlt;exact ih (ZGm h) (by omega) (by omega) (by omega)
  ·exact ⟨h.asc,Nat.le_trans h.len (by omega),h.small⟩
theorem ZGz {c:Cur}:ZGk (drawn c).1 19:=ZGq (n:=0) ⟨List.Pairwise.nil,by simp,by simp⟩ (by omega) (by omega) rfl
end Go.Rx

namespace Go.Rx
open Go
theorem ZFd {d0:ZT} {m:ZX} {oldest:Int} {pg0:List Int}:∀ {f i:Nat} {c:Cur} {t:GTxn} {ps:List ZR} {pg:List Int},ZcB d0 m oldest pg0 t ps pg→∃ps pg,ZcB d0 m oldest pg0 (Zky f i c t).1 ps pg
 |0,_,_,_,ps,pg,h=>⟨ps,pg,h⟩
 |f+1,i,c,t,ps,pg,h=>by
  rw [Zky];split
  ·obtain ⟨ps',pg',h2⟩:=ZoH (c:=(c.below 6).2) h;exact ZFd h2
  ·exact ⟨ps,pg,h⟩
theorem ZFg {c:Cur}:∃s ps0 pg0 next view ps pg,Zap s ps0 pg0 next view∧s=(Zbr c).1.ZB∧ZcB s.Zc s.Zp (Zco s) pg0 (txnD c).1 ps pg:=by
 obtain ⟨pg0,view,h⟩:=ZrH (c:=c);obtain ⟨ps,pg,h2⟩:=ZFd (f:=6) (i:=0) (c:=(Zbr c).2) (ZlJ (oldest:=Zco (Zbr c).1.ZB) h.store.disk);exact ⟨_,_,_,_,_,ps,pg,h.store,rfl,h2⟩
end Go.Rx

namespace Go.Rx
open Go
attribute [local irreducible] Req Way WayG Sel Z2 ZQ Zaz cVC Zai ZaO
def ZGo (l:List ZR) (key val:List UInt8) (hl:l.length≤1048576):=kf (ZpN l key val hl)
theorem ZGp (c:Cur) (hc:c.ok):ZQ Go.Proofs.Tryz.prog 95 [.ref 0 0] [(0,.box c.cells)] [.ref 0 0] (.own 1 0 (drawn c).1.length) [(0,.box (drawn c).2.cells),(1,.arr 2 (Zaj (drawn c).1))]:=by
 refine cof Go.Proofs.Tryz.func95 hr95 hl95 [true] ?_;simp -implicitDefEqProofs only [go_sem,Cur.cells];repeat ((first|refine rq ?_|fail);simp -implicitDefEqProofs only [go_sem,Cur.cells])
 refine ZY (α:=Nat×Cur×List ZR) (fun x=>⟨[(0,.ref 0 0),(3,.own 1 0 x.2.2.length),(4,.d (.int .i64 x.1))],[(0,some (.box x.2.1.cells)),(1,some (.arr 2 (Zaj x.2.2)))]⟩)
  (fun x=>x.1≤20∧x.2.2.length≤x.1∧x.2.1.ok∧Zuj (20 - x.1) x.1 x.2.1 x.2.2=drawn c) (fun x=>20 - x.1) (0,c,[]) rfl ⟨Nat.zero_le _,by simp,hc,rfl⟩ ?_
 rintro ⟨i,d,l⟩ ⟨h1,h2,h3,h4⟩;simp only at h1 h2 h3 h4;simp -implicitDefEqProofs only [go_sem,Cur.cells];refine Za0 d _ h3 rfl rfl rfl rfl ?_;simp -implicitDefEqProofs only [go_sem,Cur.cells];have hr:=Cur.below_range (c:=d) (n:=20) (by decide);refine Zfi (fun h5=>?_) (fun h5=>?_)
 ·have o1:=Cur.below_ok (n:=20) h3;have o2:=Cur.key_ok o1;have o3:=Cur.pick_ok (l:=[[],[49]]) o2;have o4:=Cur.pick_ok (l:=[[],[118]]) o3;have b1:=Cur.key_small (c:=(d.below 20).2);have b2:=ZGh (c:=(d.below 20).2.key.2) (l:=[[],[49]]) (by decide) (by decide);have hml:=Zuy (l:=l) (key:=(d.below 20).2.key.1++((d.below 20).2.key.2.pick [[],[49]]).1) (val:=(((d.below 20).2.key.2.pick [[],[49]]).2.pick [[],[118]]).1);simp -implicitDefEqProofs only [go_sem,Cur.cells];repeat ((first|refine ZbR (d.below 20).2 o1 rfl rfl rfl rfl ?_|refine ZhW (d.below 20).2.key.2 [[],[49]] (by decide) o2 rfl rfl rfl rfl ?_|refine ZhW ((d.below 20).2.key.2.pick [[],[49]]).2 [[],[118]] (by decide) o3 rfl rfl rfl rfl ?_|refine ZGo l _ _ (by omega) (by simp -implicitDefEqProofs only [go_sem];first|done|rfl) ?_|refine req (by first|omega|(simp [D.one];done)|(simp only [LEN];omega)) ?_|fail);simp -implicitDefEqProofs only [go_sem,Cur.cells])
  rw [ZV (by simp only [LEN];omega)];refine ZP (i+1,(Zqx (d.below 20).2 l).2,(Zqx (d.below 20).2 l).1) rfl ⟨?_,?_,o4,?_⟩ ?_
  ·simp only;omega
  ·simp only [Zqx];omega
  ·simp only;rw [←ZGr h5];exact h4
  ·simp only;omega
 ·simp -implicitDefEqProofs only [go_sem,Cur.cells];rw [ZGl h5] at h4;rw [←h4]
theorem ZGn {h:Heap} {tb:Nat} {K:OK} {k:Nat} (c:Cur) (hc:c.ok) (hh:h k=some (.box c.cells)) (hro:refO h k=[k])
  (hk:K (.own (tb+1) 0 (drawn c).1.length) [(k,none),(k,some (.box (drawn c).2.cells)),(tb+1,some (.arr 2 (Zaj (drawn c).1)))]):Z2 Go.Proofs.Tryz.prog h tb 95 [.ref k 0] K:=
 Zbz false hh hro rfl ZGy rfl (ZGp c hc) rfl rfl (.inr (.inl rfl)) hk
def wkV (w:ZS):List V:=[.d (.sl (strs w.Zc.Zv)),.d (.sl (Zae w.Zc.Zm)),.d (.int .i64 w.Zs),.d (.sl (ints w.ZH)),.d (.sl (ints w.Zg)),.d (.sl (ints w.Zf))]
theorem ZGg {w:ZS}:wkV w=[.d (.sl (strs w.Zc.Zv)),.d (.sl (Zae w.Zc.Zm)),.d (.int .i64 w.Zs),.d (.sl (ints w.ZH)),.d (.sl (ints w.Zg)),.d (.sl (ints w.Zf))]:=rfl
@[go_sem] def hr101:ZW:=hh [[0],[0,2],[0,2,3]]
@[go_sem] def hl101:ZW:=hh []
attribute [go_sem] Go.Proofs.Tryz.results101
theorem ZGt (c:Cur) (hc:c.ok):ZQ Go.Proofs.Tryz.prog 101 [.ref 0 0] [(0,.box c.cells)] [.ref 0 0] (.agg (wkV (txnD c).1.ZK)) [(0,.box (txnD c).2.cells)]:=by
 refine cof Go.Proofs.Tryz.func101 hr101 hl101 [true] ?_;simp -implicitDefEqProofs only [go_sem,Cur.cells];refine ZuP c hc rfl rfl rfl rfl ?_;simp -implicitDefEqProofs only [go_sem,Zie,Cur.cells,ZGg];repeat ((first|refine rq ?_|refine wl ?_|refine gl ?_|fail);simp -implicitDefEqProofs only [go_sem,Zie,Cur.cells,ZGg])
 try rfl
theorem ZGf {h:Heap} {tb:Nat} {K:OK} {n0:Nat} {rest:List V} (c:Cur) (hc:c.ok) (hn:h n0=some (.box c.cells)) (hro:refO h n0=[n0]) (hr:toDs h rest=some ([],[])) (hnl:([]:List Nat).contains n0=false)
  (hk:K (renV (bx n0 tb [(0,.box (txnD c).2.cells)]) (.agg (wkV (txnD c).1.ZK))) ((bif false then ([]:List Nat).map (·,none) else [])++(n0,none)::updX n0 tb [(0,.box (txnD c).2.cells)] [(0,.box (txnD c).2.cells)])):Z2 Go.Proofs.Tryz.prog h tb 101 (.ref n0 0::rest) K:=
 Zbz false hn hro rfl hr hnl (ZGt c hc) rfl rfl (.inr (.inl rfl)) hk
theorem ZGj:∀ {f i:Nat} {c:Cur} {l:List ZR},c.ok→(Zuj f i c l).2.ok
 |0,_,_,_,h=>Cur.below_ok h
 |f+1,i,c,l,h=>by
  rw [Zuj];split
  ·exact ZGj (Cur.pick_ok (Cur.pick_ok (Cur.key_ok (Cur.below_ok h))))
  ·exact Cur.below_ok h
theorem ZGw {c:Cur} (h:c.ok):(drawn c).2.ok:=ZGj h
def ZGv (k:Int) (l:List ZR):List ZR:=if k=0∧1<l.length then l++l.take 1 else l
def ZGx (k:Int) (w:ZS):ZS:=if k=1 then {w with ZH:=[],Zs:=(w.Zc.Zv.length:Int) - 2} else w
def bldD (code:List UInt8):ZS×List ZR:=
 (ZGx ((drawn (Cur.new code)).2.below 12).1 (txnD ((drawn (Cur.new code)).2.below 12).2).1.ZK,ZGv ((drawn (Cur.new code)).2.below 12).1 (drawn (Cur.new code)).1)
@[go_sem] def hr35:ZW:=hh [[0],[0,2],[2,4],[2,4,5],[2,4,5,6],[2,4,5,6],[2,4,5,6],[2,5,6,7],[2,5,7],[2,5,7],[2,5,7],[2,5,7]]
@[go_sem] def hl35:ZW:=hh []
attribute [go_sem] Go.Proofs.Tryz.results35
theorem ZGi (code:List UInt8) (hl:code.length≤1048576):ZQ Go.Proofs.Tryz.prog 35 [.d (.sl (bys code))] [] [.dead] (.tup [.d (.agg (bldD code).1.cells),.d (.sl (Zaj (bldD code).2))]) []:=by
 refine cofF Go.Proofs.Tryz.func35 hr35 hl35 ?_;have o1:=Cur.new_ok hl;simp -implicitDefEqProofs only [go_sem];refine Znr code hl rfl ?_;simp -implicitDefEqProofs only [go_sem,Cur.cells];repeat ((first|refine ZGn (Cur.new code) o1 rfl rfl ?_|fail);simp -implicitDefEqProofs only [go_sem,Cur.cells])
 unfold bldD;have hP:=(ZGz (c:=Cur.new code)).len;have o2:=ZGw o1;generalize drawn (Cur.new code)=P at hP o2 ⊢;refine Za0 P.2 12 o2 rfl rfl rfl rfl ?_;have o3:=Cur.below_ok (n:=12) o2;simp -implicitDefEqProofs only [go_sem,Cur.cells];generalize (P.2.below 12).1=k;generalize (P.2.below 12).2=c2 at o3 ⊢;obtain ⟨s,ps0,pg0,next,view,ps,pg,hi,_,htx⟩:=ZFg (c:=c2);have hw:=htx.txs.ok.smallW hi.disk.pages_len;have hdl:=hw.1.1;by_cases k0:k=0
 ·have d0:=decide_eq_true k0;have d1:decide (k=1)=false:=decide_eq_false (by omega);have hwb:ZGx k (txnD c2).1.ZK=(txnD c2).1.ZK:=if_neg (by omega);by_cases h1:1<P.1.length
  ·have e1:decide ((1:Int)<(P.1.length:Int))=true:=decide_eq_true (by omega);obtain ⟨x,hx⟩:=Z3 (l:=P.1) (i:=0) (by omega);have hlb:ZGv k P.1=P.1++[x]:=by
    rw [ZGv,if_pos ⟨k0,h1⟩];cases e:P.1 with
    |nil=>rw [e] at hx;simp at hx
    |cons y l=>rw [e] at hx;simp at hx;rw [←hx];rfl
   rw [hwb,hlb];simp -implicitDefEqProofs only [go_sem,d0,d1,e1,Zar hx,Cur.cells,ZGg];repeat ((first|refine rq ?_|refine wl ?_|refine gl ?_|refine ZGf c2 o3 rfl rfl rfl rfl ?_|fail);simp -implicitDefEqProofs only [go_sem,d0,d1,e1,Zar hx,Cur.cells,ZGg])
   simp [ZS.cells_eq,Zaj]
  ·have e1:decide ((1:Int)<(P.1.length:Int))=false:=decide_eq_false (by omega);have hlb:ZGv k P.1=P.1:=if_neg (by omega);rw [hwb,hlb];simp -implicitDefEqProofs only [go_sem,d0,d1,e1,Cur.cells,ZGg];repeat ((first|refine rq ?_|refine wl ?_|refine gl ?_|refine ZGf c2 o3 rfl rfl rfl rfl ?_|fail);simp -implicitDefEqProofs only [go_sem,d0,d1,e1,Cur.cells,ZGg])
   simp [ZS.cells_eq,Zaj]
 ·have d0:=decide_eq_false k0;have hlb:ZGv k P.1=P.1:=if_neg (by omega);by_cases k1:k=1
  ·have d1:=decide_eq_true k1;have hwb:ZGx k (txnD c2).1.ZK= {(txnD c2).1.ZK with ZH:=[],Zs:=((txnD c2).1.ZK.Zc.Zv.length:Int) - 2}:=if_pos k1;have hw2:IntKind.i64.wrap (((txnD c2).1.ZK.Zc.Zv.length:Int) - 2)=((txnD c2).1.ZK.Zc.Zv.length:Int) - 2:=Zad (by omega) (by omega);rw [hwb,hlb];simp -implicitDefEqProofs only [go_sem,d0,d1,Cur.cells,ZGg];repeat ((first|refine rq ?_|refine wl ?_|refine gl ?_|refine ZGf c2 o3 rfl rfl rfl rfl ?_|fail);simp -implicitDefEqProofs only [go_sem,d0,d1,Cur.cells,ZGg])
   refine Zd3 (xs:=[.agg (txnD c2).1.ZK.cells]) (Zd8 (txnD c2).1.ZK hw) (by simp -implicitDefEqProofs only [go_sem,ZS.cells_eq];first|done|rfl) rfl ?_;simp -implicitDefEqProofs only [go_sem,ZS.cells,hw2];repeat ((first|refine rq ?_|refine wl ?_|refine gl ?_|fail);simp -implicitDefEqProofs only [go_sem,ZS.cells,hw2])
   simp [ZS.cells_eq,Zaj];rfl
  ·have d1:=decide_eq_false k1;have hwb:ZGx k (txnD c2).1.ZK=(txnD c2).1.ZK:=if_neg k1;rw [hwb,hlb];simp -implicitDefEqProofs only [go_sem,d0,d1,Cur.cells,ZGg];repeat ((first|refine rq ?_|refine wl ?_|refine gl ?_|refine ZGf c2 o3 rfl rfl rfl rfl ?_|fail);simp -implicitDefEqProofs only [go_sem,d0,d1,Cur.cells,ZGg])
   simp [ZS.cells_eq,Zaj]
def ZGu (code:List UInt8) (hl:code.length≤1048576):=kf (ZGi code hl)
end Go.Rx
