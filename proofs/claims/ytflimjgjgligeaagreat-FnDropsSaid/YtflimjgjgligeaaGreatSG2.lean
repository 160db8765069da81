/-
  Part G2: lemmas on an evaluator over plain data of the model's code, plain laws on lists and numbers, or contracts of functions of the program; each lemma names its conditions.
-/
import Derived.Test.YtflimjgjgligeaaGreatSG1

set_option linter.unusedSimpArgs false
set_option linter.unusedVariables false
set_option maxRecDepth 100000
set_option maxHeartbeats 16000000
namespace Go.Rx
open Go
attribute [local irreducible] Req Way WayG Sel Z2 ZQ Zaz cVC Zai ZaO
theorem Zo0 {P:Program} {f:FuncId} {args:List V} {H:List (Nat×AObj)} {c:Cur} {w:Zac} {e:Z6} (hc:ZQ P f args H [.ref 0 0,.ref 1 0] (.agg [.d (.int .i64 e.Zl),.d (.int .i64 e.Zh),.d (.str e.Zi),.d (.str e.ZI),.d (.int .i64 0),.own 2 0 0,.d (.int .i64 (-1))]) [(0,.box c.cells),(1,.box (wdV w)),(2,.arr 1 [])])
  (h1:e.ZA=0∧e.Zo=[]∧e.ZE= -1):ZQ P f args H [.ref 0 0,.ref 1 0] (.d (.agg e.cells)) [(0,.box c.cells),(1,.box (wdV w))]:=
 Zpj (ls:=[]) (ls2:=[]) (ls':=[2]) (ds:=[.sl (bys c.b),.int .i64 c.i,.int .i64 c.h]) (ds2:=Zac.cells w) hc rfl rfl rfl rfl (by obtain ⟨h1,h2,h3⟩:=h1;simp [ZbC,toD,cD,cDs,hget,Z6.cells,h1,h2,h3,bls]) (by simp) (by simp) rfl
@[go_sem] def hr222:ZW:=hh [[0,1],[0,1,4],[0,1,4,5],[0,1,4,5],[0,1,4,5],[0,1,4,5],[0,1,4,5],[0,1,4,5,46],[0,1,4,5],[0,1,4,5],[0,1,4,5,46],[0,1,4,5],[0,1,4,5],[0,1,4,5],[0,1,4,5,46],[0,1,4,5],[0,1,4,5],[0,1,4,5],[0,1,4,5,6],[0,1,4,5,6],[0,1,4,5,6],[0,1,4,5,46],[0,1,4,5],[0,1,4,5],[0,1,4,5]]
@[go_sem] def hl222:ZW:=hh []
attribute [go_sem] Go.Proofs.Tryz.results222
theorem Zsz {c:Cur} {w:Zac} {pg:List Int} {view:Int→List ZR} (hi:WInv w pg view) (hc:c.ok):
  ZQ Go.Proofs.Tryz.prog 222 [.ref 0 0,.ref 1 0] [(0,.box c.cells),(1,.box (wdV w))] [.ref 0 0,.ref 1 0] (.d (.agg (Ze5 c w).1.cells)) [(0,.box (Ze5 c w).2.cells),(1,.box (wdV w))]:=by
 have o1:=Cur.pickI_ok (l:=ZhY) hc;have o2:=Cur.below_ok (n:=4) o1;have hkm:=Cur.pickI_mem (c:=c) (l:=ZhY) (by decide);have hbr:=Cur.below_range (c:=(c.pickI ZhY).2) (n:=4) (by decide);have hnl:=hi.next;have hsf:=hi.seens_few;refine Zo0 ?_ ZjD;generalize hE:Ze5 c w=E;unfold Ze5 Zsd at hE;rcases hp:c.pickI ZhY with ⟨a,c1⟩
 rw [hp] at hkm hbr o1 o2 hE;simp only at hkm hbr o1 o2 hE;rcases hb:c1.below 4 with ⟨b,c2⟩
 rw [hb] at hbr o2 hE;simp only at hbr o2 hE;have e1:IntKind.i64.wrap (1+b)=1+b:=Zad (by omega) (by omega);have o3:=Cur.key_ok o2;have ha:a=2∨a=3∨a=4∨a=5∨a=6∨a=7∨a=8∨a=9:=by
  simp only [ZhY,List.mem_cons,List.not_mem_nil,or_false] at hkm;omega
 refine cof Go.Proofs.Tryz.func222 hr222 hl222 [true,true] ?_;simp -implicitDefEqProofs only [go_sem,Cur.cells,ZZ];repeat ((first|refine rq ?_|refine Zmg c ZhY (by decide) hc rfl rfl rfl rfl ?_|refine Za0 c1 4 o1 rfl rfl rfl rfl ?_|fail);simp -implicitDefEqProofs only [go_sem,Cur.cells,ZZ,hp,hb,e1])
 rcases ha with rfl|rfl|rfl|rfl|rfl|rfl|rfl|rfl
 ·cases hw:w.ZB.ZL
  ·have hk1:(if w.ZB.ZL=false∧((2:Int)=2∨(2:Int)=3∨(2:Int)=4) then (1:Int) else 2)=1:=if_pos ⟨hw,.inl rfl⟩;rw [hk1,if_neg (show ¬((1:Int)=5) by decide)] at hE;subst hE;simp -implicitDefEqProofs only [go_sem,Cur.cells,ZZ,hw];repeat ((first|refine rq ?_|refine wl ?_|refine gl ?_|fail);simp -implicitDefEqProofs only [go_sem,Cur.cells,ZZ,hw])
   try rfl
  ·have hk1:(if w.ZB.ZL=false∧((2:Int)=2∨(2:Int)=3∨(2:Int)=4) then (1:Int) else 2)=2:=if_neg fun h=>(by rw [hw] at h;cases h.1)
   rw [hk1,if_neg (show ¬((2:Int)=5) by decide)] at hE;subst hE;simp -implicitDefEqProofs only [go_sem,Cur.cells,ZZ,hw];repeat ((first|refine rq ?_|refine wl ?_|refine gl ?_|refine ZbR c2 o2 rfl rfl rfl rfl ?_|refine ZhW c2.key.2 valL (by decide) o3 rfl rfl rfl rfl ?_|fail);simp -implicitDefEqProofs only [go_sem,Cur.cells,ZZ,hw])
   try rfl
 ·cases hw:w.ZB.ZL
  ·have hk1:(if w.ZB.ZL=false∧((3:Int)=2∨(3:Int)=3∨(3:Int)=4) then (1:Int) else 3)=1:=if_pos ⟨hw,.inr (.inl rfl)⟩;rw [hk1,if_neg (show ¬((1:Int)=5) by decide)] at hE;subst hE;simp -implicitDefEqProofs only [go_sem,Cur.cells,ZZ,hw];repeat ((first|refine rq ?_|refine wl ?_|refine gl ?_|fail);simp -implicitDefEqProofs only [go_sem,Cur.cells,ZZ,hw])
   try rfl
  ·have hk1:(if w.ZB.ZL=false∧((3:Int)=2∨(3:Int)=3∨(3:Int)=4) then (1:Int) else 3)=3:=if_neg fun h=>(by rw [hw] at h;cases h.1)
   rw [hk1,if_neg (show ¬((3:Int)=5) by decide)] at hE;have hE:Zh9 (1+b) c2 w=E:=hE;unfold Zh9 at hE;by_cases hn:0<w.Zs.length
   ·have dn:decide ((0:Int)<(w.Zs.length:Int))=true:=decide_eq_true (by omega);rw [if_pos hn] at hE;rcases ho:c2.key.2.once 3 with ⟨q,c4⟩
    have o4:=Cur.once_ok (n:=3) o3;rw [ho] at hE o4;simp only at hE o4;cases q
    ·rw [if_pos rfl] at hE;have hr:=Cur.below_range (c:=c4) (n:=w.Zs.length) (by omega);have hbl:(c4.below w.Zs.length)=((c4.below w.Zs.length).1,(c4.below w.Zs.length).2):=rfl;obtain ⟨j,hj⟩:=Int.eq_ofNat_of_zero_le hr.1;obtain ⟨x,hx⟩:=Z3 (l:=w.Zs) (i:=j) (by omega);have hg:w.Zs.getD ((c4.below w.Zs.length).1).toNat ZwM=x:=by rw [hj,Int.toNat_natCast,List.getD_eq_getElem?_getD,hx];rfl
     rw [hg] at hE;subst hE;simp -implicitDefEqProofs only [go_sem,Cur.cells,ZZ,hw,dn,ho,hj,Zar hx];repeat ((first|refine rq ?_|refine wl ?_|refine gl ?_|refine ZbR c2 o2 rfl rfl rfl rfl ?_|refine Zbu c2.key.2 3 o3 rfl rfl rfl rfl ?_|refine Za0 c4 w.Zs.length o4 rfl rfl rfl rfl ?_|fail);simp -implicitDefEqProofs only [go_sem,Cur.cells,ZZ,hw,dn,ho,hj,Zar hx])
     try rfl
    ·rw [if_neg (by simp)] at hE;subst hE;simp -implicitDefEqProofs only [go_sem,Cur.cells,ZZ,hw,dn,ho];repeat ((first|refine rq ?_|refine wl ?_|refine gl ?_|refine ZbR c2 o2 rfl rfl rfl rfl ?_|refine Zbu c2.key.2 3 o3 rfl rfl rfl rfl ?_|fail);simp -implicitDefEqProofs only [go_sem,Cur.cells,ZZ,hw,dn,ho])
     try rfl
   ·have dn:decide ((0:Int)<(w.Zs.length:Int))=false:=decide_eq_false (by omega);rw [if_neg hn] at hE;subst hE;simp -implicitDefEqProofs only [go_sem,Cur.cells,ZZ,hw,dn];repeat ((first|refine rq ?_|refine wl ?_|refine gl ?_|refine ZbR c2 o2 rfl rfl rfl rfl ?_|fail);simp -implicitDefEqProofs only [go_sem,Cur.cells,ZZ,hw,dn])
    try rfl
 ·cases hw:w.ZB.ZL
  ·have hk1:(if w.ZB.ZL=false∧((4:Int)=2∨(4:Int)=3∨(4:Int)=4) then (1:Int) else 4)=1:=if_pos ⟨hw,.inr (.inr rfl)⟩;rw [hk1,if_neg (show ¬((1:Int)=5) by decide)] at hE;subst hE;simp -implicitDefEqProofs only [go_sem,Cur.cells,ZZ,hw];repeat ((first|refine rq ?_|refine wl ?_|refine gl ?_|fail);simp -implicitDefEqProofs only [go_sem,Cur.cells,ZZ,hw])
   try rfl
  ·have hk1:(if w.ZB.ZL=false∧((4:Int)=2∨(4:Int)=3∨(4:Int)=4) then (1:Int) else 4)=4:=if_neg fun h=>(by rw [hw] at h;cases h.1)
   rw [hk1,if_neg (show ¬((4:Int)=5) by decide)] at hE;subst hE;simp -implicitDefEqProofs only [go_sem,Cur.cells,ZZ,hw];repeat ((first|refine rq ?_|refine wl ?_|refine gl ?_|fail);simp -implicitDefEqProofs only [go_sem,Cur.cells,ZZ,hw])
   try rfl
 ·have hk1:(if w.ZB.ZL=false∧((5:Int)=2∨(5:Int)=3∨(5:Int)=4) then (1:Int) else 5)=5:=if_neg fun h=>absurd h.2 (by decide)
  rw [hk1,if_pos (show ((5:Int)=5) from rfl)] at hE;rcases ho:c2.once 3 with ⟨q,c4⟩
  rw [ho] at hE;simp only at hE;cases q
  ·subst hE;cases hw:w.ZB.ZL
   ·simp -implicitDefEqProofs only [go_sem,Cur.cells,ZZ,hw,ho];repeat ((first|refine rq ?_|refine wl ?_|refine gl ?_|refine Zbu c2 3 o2 rfl rfl rfl rfl ?_|fail);simp -implicitDefEqProofs only [go_sem,Cur.cells,ZZ,hw,ho])
    try rfl
   ·simp -implicitDefEqProofs only [go_sem,Cur.cells,ZZ,hw,ho];repeat ((first|refine rq ?_|refine wl ?_|refine gl ?_|refine Zbu c2 3 o2 rfl rfl rfl rfl ?_|fail);simp -implicitDefEqProofs only [go_sem,Cur.cells,ZZ,hw,ho])
    try rfl
  ·subst hE;cases hw:w.ZB.ZL
   ·simp -implicitDefEqProofs only [go_sem,Cur.cells,ZZ,hw,ho];repeat ((first|refine rq ?_|refine wl ?_|refine gl ?_|refine Zbu c2 3 o2 rfl rfl rfl rfl ?_|fail);simp -implicitDefEqProofs only [go_sem,Cur.cells,ZZ,hw,ho])
    try rfl
   ·simp -implicitDefEqProofs only [go_sem,Cur.cells,ZZ,hw,ho];repeat ((first|refine rq ?_|refine wl ?_|refine gl ?_|refine Zbu c2 3 o2 rfl rfl rfl rfl ?_|fail);simp -implicitDefEqProofs only [go_sem,Cur.cells,ZZ,hw,ho])
    try rfl
 ·have hk1:(if w.ZB.ZL=false∧((6:Int)=2∨(6:Int)=3∨(6:Int)=4) then (1:Int) else 6)=6:=if_neg fun h=>absurd h.2 (by decide)
  rw [hk1,if_neg (show ¬((6:Int)=5) by decide)] at hE;subst hE;cases hw:w.ZB.ZL
  ·simp -implicitDefEqProofs only [go_sem,Cur.cells,ZZ,hw];repeat ((first|refine rq ?_|refine wl ?_|refine gl ?_|fail);simp -implicitDefEqProofs only [go_sem,Cur.cells,ZZ,hw])
   try rfl
  ·simp -implicitDefEqProofs only [go_sem,Cur.cells,ZZ,hw];repeat ((first|refine rq ?_|refine wl ?_|refine gl ?_|fail);simp -implicitDefEqProofs only [go_sem,Cur.cells,ZZ,hw])
   try rfl
 ·have hk1:(if w.ZB.ZL=false∧((7:Int)=2∨(7:Int)=3∨(7:Int)=4) then (1:Int) else 7)=7:=if_neg fun h=>absurd h.2 (by decide)
  rw [hk1,if_neg (show ¬((7:Int)=5) by decide)] at hE;have hE:ZlL (1+b) c2 w=E:=hE;unfold ZlL at hE;generalize hw:w.ZB.ZL=wr;by_cases hn:0<w.Zz.length
  ·have dn:decide ((0:Int)<(w.Zz.length:Int))=true:=decide_eq_true (by omega);rw [if_pos hn] at hE;rcases ho:c2.key.2.once 4 with ⟨q,c4⟩
   have o4:=Cur.once_ok (n:=4) o3;rw [ho] at hE o4;simp only at hE o4;cases q
   ·rw [if_pos rfl] at hE;have o5:=Cur.below_ok (n:=w.Zz.length) o4;have hr:=Cur.below_range (c:=c4) (n:=w.Zz.length) (by omega);obtain ⟨j,hj⟩:=Int.eq_ofNat_of_zero_le hr.1;obtain ⟨x,hx⟩:=Z3 (l:=w.Zz) (i:=j) (by omega);have hg:w.Zz.getD ((c4.below w.Zz.length).1).toNat Zt5=x:=by rw [hj,Int.toNat_natCast,List.getD_eq_getElem?_getD,hx];rfl
    rw [hg] at hE;have hxl:=(hi.seen x (List.mem_of_getElem? hx)).2;unfold Zh8 at hE;by_cases hm:0<x.Zw.length
    ·have dm:decide ((0:Int)<(x.Zw.length:Int))=true:=decide_eq_true (by omega);rw [if_pos hm] at hE;have hr2:=Cur.below_range (c:=(c4.below w.Zz.length).2) (n:=x.Zw.length) (by omega);obtain ⟨k,hk⟩:=Int.eq_ofNat_of_zero_le hr2.1;obtain ⟨y,hy⟩:=Z3 (l:=x.Zw) (i:=k) (by omega);have hg2:x.Zw.getD (((c4.below w.Zz.length).2.below x.Zw.length).1).toNat ZwM=y:=by rw [hk,Int.toNat_natCast,List.getD_eq_getElem?_getD,hy];rfl
     rw [hg2] at hE;subst hE;cases wr
     all_goals
      simp -implicitDefEqProofs only [go_sem,Cur.cells,ZZ,hw,dn,ho,hj,hk,Zbc hx,Zar hy,dm];repeat ((first|refine rq ?_|refine wl ?_|refine gl ?_|refine ZbR c2 o2 rfl rfl rfl rfl ?_|refine Zbu c2.key.2 4 o3 rfl rfl rfl rfl ?_|refine Za0 c4 w.Zz.length o4 rfl rfl rfl rfl ?_|refine Za0 (c4.below w.Zz.length).2 x.Zw.length o5 rfl rfl rfl rfl ?_|fail);simp -implicitDefEqProofs only [go_sem,Cur.cells,ZZ,hw,dn,ho,hj,hk,Zbc hx,Zar hy,dm])
      try rfl
    ·have dm:decide ((0:Int)<(x.Zw.length:Int))=false:=decide_eq_false (by omega);rw [if_neg hm] at hE;subst hE;cases wr
     all_goals
      simp -implicitDefEqProofs only [go_sem,Cur.cells,ZZ,hw,dn,ho,hj,Zbc hx,dm];repeat ((first|refine rq ?_|refine wl ?_|refine gl ?_|refine ZbR c2 o2 rfl rfl rfl rfl ?_|refine Zbu c2.key.2 4 o3 rfl rfl rfl rfl ?_|refine Za0 c4 w.Zz.length o4 rfl rfl rfl rfl ?_|refine Za0 (c4.below w.Zz.length).2 x.Zw.length o5 rfl rfl rfl rfl ?_|fail);simp -implicitDefEqProofs only [go_sem,Cur.cells,ZZ,hw,dn,ho,hj,Zbc hx,dm])
      try rfl
   ·rw [if_neg (by simp)] at hE;subst hE;cases wr
    ·simp -implicitDefEqProofs only [go_sem,Cur.cells,ZZ,hw,dn,ho];repeat ((first|refine rq ?_|refine wl ?_|refine gl ?_|refine ZbR c2 o2 rfl rfl rfl rfl ?_|refine Zbu c2.key.2 4 o3 rfl rfl rfl rfl ?_|fail);simp -implicitDefEqProofs only [go_sem,Cur.cells,ZZ,hw,dn,ho])
     try rfl
    ·simp -implicitDefEqProofs only [go_sem,Cur.cells,ZZ,hw,dn,ho];repeat ((first|refine rq ?_|refine wl ?_|refine gl ?_|refine ZbR c2 o2 rfl rfl rfl rfl ?_|refine Zbu c2.key.2 4 o3 rfl rfl rfl rfl ?_|fail);simp -implicitDefEqProofs only [go_sem,Cur.cells,ZZ,hw,dn,ho])
     try rfl
  ·have dn:decide ((0:Int)<(w.Zz.length:Int))=false:=decide_eq_false (by omega);rw [if_neg hn] at hE;subst hE;cases wr
   ·simp -implicitDefEqProofs only [go_sem,Cur.cells,ZZ,hw,dn];repeat ((first|refine rq ?_|refine wl ?_|refine gl ?_|refine ZbR c2 o2 rfl rfl rfl rfl ?_|fail);simp -implicitDefEqProofs only [go_sem,Cur.cells,ZZ,hw,dn])
    try rfl
   ·simp -implicitDefEqProofs only [go_sem,Cur.cells,ZZ,hw,dn];repeat ((first|refine rq ?_|refine wl ?_|refine gl ?_|refine ZbR c2 o2 rfl rfl rfl rfl ?_|fail);simp -implicitDefEqProofs only [go_sem,Cur.cells,ZZ,hw,dn])
    try rfl
 ·have hk1:(if w.ZB.ZL=false∧((8:Int)=2∨(8:Int)=3∨(8:Int)=4) then (1:Int) else 8)=8:=if_neg fun h=>absurd h.2 (by decide)
  rw [hk1,if_neg (show ¬((8:Int)=5) by decide)] at hE;have hE:(evt 8 (if 0<w.Zz.length then (w.Zz.getD 0 Zt5).Zh else 1+b) [] [],c2)=E:=hE;generalize hw:w.ZB.ZL=wr;by_cases hn:0<w.Zz.length
  ·have dn:decide ((0:Int)<(w.Zz.length:Int))=true:=decide_eq_true (by omega);obtain ⟨x,hx⟩:=Z3 (l:=w.Zz) (i:=0) (by omega);have hg:w.Zz.getD 0 Zt5=x:=by rw [List.getD_eq_getElem?_getD,hx];rfl
   rw [if_pos hn,hg] at hE;subst hE;cases wr
   ·simp -implicitDefEqProofs only [go_sem,Cur.cells,ZZ,hw,dn,Zbc hx];repeat ((first|refine rq ?_|refine wl ?_|refine gl ?_|fail);simp -implicitDefEqProofs only [go_sem,Cur.cells,ZZ,hw,dn,Zbc hx])
    try rfl
   ·simp -implicitDefEqProofs only [go_sem,Cur.cells,ZZ,hw,dn,Zbc hx];repeat ((first|refine rq ?_|refine wl ?_|refine gl ?_|fail);simp -implicitDefEqProofs only [go_sem,Cur.cells,ZZ,hw,dn,Zbc hx])
    try rfl
  ·have dn:decide ((0:Int)<(w.Zz.length:Int))=false:=decide_eq_false (by omega);rw [if_neg hn] at hE;subst hE;cases wr
   ·simp -implicitDefEqProofs only [go_sem,Cur.cells,ZZ,hw,dn];repeat ((first|refine rq ?_|refine wl ?_|refine gl ?_|fail);simp -implicitDefEqProofs only [go_sem,Cur.cells,ZZ,hw,dn])
    try rfl
   ·simp -implicitDefEqProofs only [go_sem,Cur.cells,ZZ,hw,dn];repeat ((first|refine rq ?_|refine wl ?_|refine gl ?_|fail);simp -implicitDefEqProofs only [go_sem,Cur.cells,ZZ,hw,dn])
    try rfl
 ·have hk1:(if w.ZB.ZL=false∧((9:Int)=2∨(9:Int)=3∨(9:Int)=4) then (1:Int) else 9)=9:=if_neg fun h=>absurd h.2 (by decide)
  rw [hk1,if_neg (show ¬((9:Int)=5) by decide)] at hE;subst hE;cases hw:w.ZB.ZL
  ·simp -implicitDefEqProofs only [go_sem,Cur.cells,ZZ,hw];repeat ((first|refine rq ?_|refine wl ?_|refine gl ?_|fail);simp -implicitDefEqProofs only [go_sem,Cur.cells,ZZ,hw])
   try rfl
  ·simp -implicitDefEqProofs only [go_sem,Cur.cells,ZZ,hw];repeat ((first|refine rq ?_|refine wl ?_|refine gl ?_|fail);simp -implicitDefEqProofs only [go_sem,Cur.cells,ZZ,hw])
   try rfl
end Go.Rx
