/-
  Part G2: lemmas on an evaluator over plain data of the model's code, plain laws on lists and numbers, or contracts of functions of the program; each lemma names its conditions.
-/
import Derived.Test.YtmeinhaecplpkaaGreatRG1

set_option linter.unusedSimpArgs false
set_option linter.unusedVariables false
namespace Go.Rx
open Go
attribute [local irreducible] Req Way WayG Sel callVC CallOK seqVC cVC loopVC nextK
theorem next_freeze {P:Program} {f:FuncId} {args:List V} {H:List (Nat×AObj)} {c:Cur} {w:GWorld} {e:GEvent} (hc:CallOK P f args H [.ref 0 0,.ref 1 0] (.agg [.d (.int .i64 e.fKind),.d (.int .i64 e.fId),.d (.str e.fKey),.d (.str e.fVal),.d (.int .i64 0),.own 2 0 0,.d (.int .i64 (-1))]) [(0,.box c.cells),(1,.box (wdV w)),(2,.arr 1 [])])
  (h1:e.fStage=0∧e.fLeft=[]∧e.fTorn= -1):CallOK P f args H [.ref 0 0,.ref 1 0] (.d (.agg e.cells)) [(0,.box c.cells),(1,.box (wdV w))]:=
 freeze_box2 (ls:=[]) (ls2:=[]) (ls':=[2]) (ds:=[.sl (bys c.b),.int .i64 c.i,.int .i64 c.h]) (ds2:=GWorld.cells w) hc rfl rfl rfl rfl (by obtain ⟨h1,h2,h3⟩:=h1;simp [freezeV,toD,cD,cDs,hget,GEvent.cells,h1,h2,h3,bls]) (by simp) (by simp) rfl
@[go_sem] def hr201:Hints
 |0=> [0,1]|1=> [0,1,4]|2=> [0,1,4,5]|3=> [0,1,4,5]|4=> [0,1,4,5]|5=> [0,1,4,5]|6=> [0,1,4,5]|7=> [0,1,4,5,46]|8=> [0,1,4,5]|9=> [0,1,4,5]|10=> [0,1,4,5,46]|11=> [0,1,4,5]|12=> [0,1,4,5]|13=> [0,1,4,5]|14=> [0,1,4,5,46]|15=> [0,1,4,5]|16=> [0,1,4,5]|17=> [0,1,4,5]|18=> [0,1,4,5,6]|19=> [0,1,4,5,6]|20=> [0,1,4,5,6]|21=> [0,1,4,5,46]|22=> [0,1,4,5]|23=> [0,1,4,5]|24=> [0,1,4,5]|_=> []
@[go_sem] def hl201:Hints:=fun _=> []
attribute [go_sem] Go.Proofs.Tryz.results201
set_option maxRecDepth 100000 in
set_option maxHeartbeats 16000000 in
theorem cs_l16Next {c:Cur} {w:GWorld} {pg:List Int} {view:Int→List GPair} (hi:WInv w pg view) (hc:c.ok):
  CallOK Go.Proofs.Tryz.prog 201 [.ref 0 0,.ref 1 0] [(0,.box c.cells),(1,.box (wdV w))] [.ref 0 0,.ref 1 0] (.d (.agg (nextE c w).1.cells)) [(0,.box (nextE c w).2.cells),(1,.box (wdV w))]:=by
 have o1:=Cur.pickI_ok (l:=kindL) hc
 have o2:=Cur.below_ok (n:=4) o1
 have hkm:=Cur.pickI_mem (c:=c) (l:=kindL) (by decide)
 have hbr:=Cur.below_range (c:=(c.pickI kindL).2) (n:=4) (by decide)
 have hnl:=hi.next
 have hsf:=hi.seens_few
 refine next_freeze ?_ nextE_plain
 generalize hE:nextE c w=E
 unfold nextE kind1 at hE
 rcases hp:c.pickI kindL with ⟨a,c1⟩
 rw [hp] at hkm hbr o1 o2 hE
 simp only at hkm hbr o1 o2 hE
 rcases hb:c1.below 4 with ⟨b,c2⟩
 rw [hb] at hbr o2 hE
 simp only at hbr o2 hE
 have e1:IntKind.i64.wrap (1+b)=1+b:=wrap_int (by omega) (by omega)
 have o3:=Cur.key_ok o2
 have ha:a=2∨a=3∨a=4∨a=5∨a=6∨a=7∨a=8∨a=9:=by
  simp only [kindL,List.mem_cons,List.not_mem_nil,or_false] at hkm
  omega
 refine call_of tysZOK mixedZ Go.Proofs.Tryz.func201 (by kernel_rfl) rfl (np:=[true,true]) (by kernel_rfl) hr201 hl201 (by simp [Go.Proofs.Tryz.ntmps201]) ?_
 simp -implicitDefEqProofs only [go_sem,Cur.cells,wdV_eq]
 repeat ((first|refine rq ?_|refine ks_l01PickInt c kindL (by decide) hc rfl rfl rfl rfl ?_|refine ks_l01Below c1 4 o1 rfl rfl rfl rfl ?_|fail);simp -implicitDefEqProofs only [go_sem,Cur.cells,wdV_eq,hp,hb,e1])
 rcases ha with rfl|rfl|rfl|rfl|rfl|rfl|rfl|rfl
 ·cases hw:w.fStore.fWriting
  ·have hk1:(if w.fStore.fWriting=false∧((2:Int)=2∨(2:Int)=3∨(2:Int)=4) then (1:Int) else 2)=1:=if_pos ⟨hw,.inl rfl⟩
   rw [hk1,if_neg (show ¬((1:Int)=5) by decide)] at hE
   subst hE
   simp -implicitDefEqProofs only [go_sem,Cur.cells,wdV_eq,hw]
   repeat ((first|refine rq ?_|refine wy ?_|refine wn ?_|refine gy ?_|refine gn ?_|fail);simp -implicitDefEqProofs only [go_sem,Cur.cells,wdV_eq,hw])
   try rfl
  ·have hk1:(if w.fStore.fWriting=false∧((2:Int)=2∨(2:Int)=3∨(2:Int)=4) then (1:Int) else 2)=2:=if_neg fun h=>(by rw [hw] at h;cases h.1)
   rw [hk1,if_neg (show ¬((2:Int)=5) by decide)] at hE
   subst hE
   simp -implicitDefEqProofs only [go_sem,Cur.cells,wdV_eq,hw]
   repeat ((first|refine rq ?_|refine wy ?_|refine wn ?_|refine gy ?_|refine gn ?_|refine ks_l05Key c2 o2 rfl rfl rfl rfl ?_|refine ks_l01Pick c2.key.2 valL (by decide) o3 rfl rfl rfl rfl ?_|fail);simp -implicitDefEqProofs only [go_sem,Cur.cells,wdV_eq,hw])
   try rfl
 ·cases hw:w.fStore.fWriting
  ·have hk1:(if w.fStore.fWriting=false∧((3:Int)=2∨(3:Int)=3∨(3:Int)=4) then (1:Int) else 3)=1:=if_pos ⟨hw,.inr (.inl rfl)⟩
   rw [hk1,if_neg (show ¬((1:Int)=5) by decide)] at hE
   subst hE
   simp -implicitDefEqProofs only [go_sem,Cur.cells,wdV_eq,hw]
   repeat ((first|refine rq ?_|refine wy ?_|refine wn ?_|refine gy ?_|refine gn ?_|fail);simp -implicitDefEqProofs only [go_sem,Cur.cells,wdV_eq,hw])
   try rfl
  ·have hk1:(if w.fStore.fWriting=false∧((3:Int)=2∨(3:Int)=3∨(3:Int)=4) then (1:Int) else 3)=3:=if_neg fun h=>(by rw [hw] at h;cases h.1)
   rw [hk1,if_neg (show ¬((3:Int)=5) by decide)] at hE
   have hE:argDrop (1+b) c2 w=E:=hE
   unfold argDrop at hE
   by_cases hn:0<w.fNext.length
   ·have dn:decide ((0:Int)<(w.fNext.length:Int))=true:=decide_eq_true (by omega)
    rw [if_pos hn] at hE
    rcases ho:c2.key.2.once 3 with ⟨q,c4⟩
    have o4:=Cur.once_ok (n:=3) o3
    rw [ho] at hE o4
    simp only at hE o4
    cases q
    ·rw [if_pos rfl] at hE
     have hr:=Cur.below_range (c:=c4) (n:=w.fNext.length) (by omega)
     have hbl:(c4.below w.fNext.length)=((c4.below w.fNext.length).1,(c4.below w.fNext.length).2):=rfl
     obtain ⟨j,hj⟩:=Int.eq_ofNat_of_zero_le hr.1
     obtain ⟨x,hx⟩:=some_at (l:=w.fNext) (i:=j) (by omega)
     have hg:w.fNext.getD ((c4.below w.fNext.length).1).toNat pair0=x:=by rw [hj,Int.toNat_natCast,List.getD_eq_getElem?_getD,hx];rfl
     rw [hg] at hE
     subst hE
     simp -implicitDefEqProofs only [go_sem,Cur.cells,wdV_eq,hw,dn,ho,hj,lget_GPairS hx]
     repeat ((first|refine rq ?_|refine wy ?_|refine wn ?_|refine gy ?_|refine gn ?_|refine ks_l05Key c2 o2 rfl rfl rfl rfl ?_|refine ks_l01Once c2.key.2 3 o3 rfl rfl rfl rfl ?_|refine ks_l01Below c4 w.fNext.length o4 rfl rfl rfl rfl ?_|fail);simp -implicitDefEqProofs only [go_sem,Cur.cells,wdV_eq,hw,dn,ho,hj,lget_GPairS hx])
     try rfl
    ·rw [if_neg (by simp)] at hE
     subst hE
     simp -implicitDefEqProofs only [go_sem,Cur.cells,wdV_eq,hw,dn,ho]
     repeat ((first|refine rq ?_|refine wy ?_|refine wn ?_|refine gy ?_|refine gn ?_|refine ks_l05Key c2 o2 rfl rfl rfl rfl ?_|refine ks_l01Once c2.key.2 3 o3 rfl rfl rfl rfl ?_|fail);simp -implicitDefEqProofs only [go_sem,Cur.cells,wdV_eq,hw,dn,ho])
     try rfl
   ·have dn:decide ((0:Int)<(w.fNext.length:Int))=false:=decide_eq_false (by omega)
    rw [if_neg hn] at hE
    subst hE
    simp -implicitDefEqProofs only [go_sem,Cur.cells,wdV_eq,hw,dn]
    repeat ((first|refine rq ?_|refine wy ?_|refine wn ?_|refine gy ?_|refine gn ?_|refine ks_l05Key c2 o2 rfl rfl rfl rfl ?_|fail);simp -implicitDefEqProofs only [go_sem,Cur.cells,wdV_eq,hw,dn])
    try rfl
 ·cases hw:w.fStore.fWriting
  ·have hk1:(if w.fStore.fWriting=false∧((4:Int)=2∨(4:Int)=3∨(4:Int)=4) then (1:Int) else 4)=1:=if_pos ⟨hw,.inr (.inr rfl)⟩
   rw [hk1,if_neg (show ¬((1:Int)=5) by decide)] at hE
   subst hE
   simp -implicitDefEqProofs only [go_sem,Cur.cells,wdV_eq,hw]
   repeat ((first|refine rq ?_|refine wy ?_|refine wn ?_|refine gy ?_|refine gn ?_|fail);simp -implicitDefEqProofs only [go_sem,Cur.cells,wdV_eq,hw])
   try rfl
  ·have hk1:(if w.fStore.fWriting=false∧((4:Int)=2∨(4:Int)=3∨(4:Int)=4) then (1:Int) else 4)=4:=if_neg fun h=>(by rw [hw] at h;cases h.1)
   rw [hk1,if_neg (show ¬((4:Int)=5) by decide)] at hE
   subst hE
   simp -implicitDefEqProofs only [go_sem,Cur.cells,wdV_eq,hw]
   repeat ((first|refine rq ?_|refine wy ?_|refine wn ?_|refine gy ?_|refine gn ?_|fail);simp -implicitDefEqProofs only [go_sem,Cur.cells,wdV_eq,hw])
   try rfl
 ·have hk1:(if w.fStore.fWriting=false∧((5:Int)=2∨(5:Int)=3∨(5:Int)=4) then (1:Int) else 5)=5:=if_neg fun h=>absurd h.2 (by decide)
  rw [hk1,if_pos (show ((5:Int)=5) from rfl)] at hE
  rcases ho:c2.once 3 with ⟨q,c4⟩
  rw [ho] at hE
  simp only at hE
  cases q
  ·subst hE
   cases hw:w.fStore.fWriting
   ·simp -implicitDefEqProofs only [go_sem,Cur.cells,wdV_eq,hw,ho]
    repeat ((first|refine rq ?_|refine wy ?_|refine wn ?_|refine gy ?_|refine gn ?_|refine ks_l01Once c2 3 o2 rfl rfl rfl rfl ?_|fail);simp -implicitDefEqProofs only [go_sem,Cur.cells,wdV_eq,hw,ho])
    try rfl
   ·simp -implicitDefEqProofs only [go_sem,Cur.cells,wdV_eq,hw,ho]
    repeat ((first|refine rq ?_|refine wy ?_|refine wn ?_|refine gy ?_|refine gn ?_|refine ks_l01Once c2 3 o2 rfl rfl rfl rfl ?_|fail);simp -implicitDefEqProofs only [go_sem,Cur.cells,wdV_eq,hw,ho])
    try rfl
  ·subst hE
   cases hw:w.fStore.fWriting
   ·simp -implicitDefEqProofs only [go_sem,Cur.cells,wdV_eq,hw,ho]
    repeat ((first|refine rq ?_|refine wy ?_|refine wn ?_|refine gy ?_|refine gn ?_|refine ks_l01Once c2 3 o2 rfl rfl rfl rfl ?_|fail);simp -implicitDefEqProofs only [go_sem,Cur.cells,wdV_eq,hw,ho])
    try rfl
   ·simp -implicitDefEqProofs only [go_sem,Cur.cells,wdV_eq,hw,ho]
    repeat ((first|refine rq ?_|refine wy ?_|refine wn ?_|refine gy ?_|refine gn ?_|refine ks_l01Once c2 3 o2 rfl rfl rfl rfl ?_|fail);simp -implicitDefEqProofs only [go_sem,Cur.cells,wdV_eq,hw,ho])
    try rfl
 ·have hk1:(if w.fStore.fWriting=false∧((6:Int)=2∨(6:Int)=3∨(6:Int)=4) then (1:Int) else 6)=6:=if_neg fun h=>absurd h.2 (by decide)
  rw [hk1,if_neg (show ¬((6:Int)=5) by decide)] at hE
  subst hE
  cases hw:w.fStore.fWriting
  ·simp -implicitDefEqProofs only [go_sem,Cur.cells,wdV_eq,hw]
   repeat ((first|refine rq ?_|refine wy ?_|refine wn ?_|refine gy ?_|refine gn ?_|fail);simp -implicitDefEqProofs only [go_sem,Cur.cells,wdV_eq,hw])
   try rfl
  ·simp -implicitDefEqProofs only [go_sem,Cur.cells,wdV_eq,hw]
   repeat ((first|refine rq ?_|refine wy ?_|refine wn ?_|refine gy ?_|refine gn ?_|fail);simp -implicitDefEqProofs only [go_sem,Cur.cells,wdV_eq,hw])
   try rfl
 ·have hk1:(if w.fStore.fWriting=false∧((7:Int)=2∨(7:Int)=3∨(7:Int)=4) then (1:Int) else 7)=7:=if_neg fun h=>absurd h.2 (by decide)
  rw [hk1,if_neg (show ¬((7:Int)=5) by decide)] at hE
  have hE:argGet (1+b) c2 w=E:=hE
  unfold argGet at hE
  generalize hw:w.fStore.fWriting=wr
  by_cases hn:0<w.fSeens.length
  ·have dn:decide ((0:Int)<(w.fSeens.length:Int))=true:=decide_eq_true (by omega)
   rw [if_pos hn] at hE
   rcases ho:c2.key.2.once 4 with ⟨q,c4⟩
   have o4:=Cur.once_ok (n:=4) o3
   rw [ho] at hE o4
   simp only at hE o4
   cases q
   ·rw [if_pos rfl] at hE
    have o5:=Cur.below_ok (n:=w.fSeens.length) o4
    have hr:=Cur.below_range (c:=c4) (n:=w.fSeens.length) (by omega)
    obtain ⟨j,hj⟩:=Int.eq_ofNat_of_zero_le hr.1
    obtain ⟨x,hx⟩:=some_at (l:=w.fSeens) (i:=j) (by omega)
    have hg:w.fSeens.getD ((c4.below w.fSeens.length).1).toNat seen0=x:=by rw [hj,Int.toNat_natCast,List.getD_eq_getElem?_getD,hx];rfl
    rw [hg] at hE
    have hxl:=(hi.seen x (List.mem_of_getElem? hx)).2
    unfold argSeen at hE
    by_cases hm:0<x.fPairs.length
    ·have dm:decide ((0:Int)<(x.fPairs.length:Int))=true:=decide_eq_true (by omega)
     rw [if_pos hm] at hE
     have hr2:=Cur.below_range (c:=(c4.below w.fSeens.length).2) (n:=x.fPairs.length) (by omega)
     obtain ⟨k,hk⟩:=Int.eq_ofNat_of_zero_le hr2.1
     obtain ⟨y,hy⟩:=some_at (l:=x.fPairs) (i:=k) (by omega)
     have hg2:x.fPairs.getD (((c4.below w.fSeens.length).2.below x.fPairs.length).1).toNat pair0=y:=by rw [hk,Int.toNat_natCast,List.getD_eq_getElem?_getD,hy];rfl
     rw [hg2] at hE
     subst hE
     cases wr
     all_goals
      simp -implicitDefEqProofs only [go_sem,Cur.cells,wdV_eq,hw,dn,ho,hj,hk,lget_GSeenS hx,lget_GPairS hy,dm]
      repeat ((first|refine rq ?_|refine wy ?_|refine wn ?_|refine gy ?_|refine gn ?_|refine ks_l05Key c2 o2 rfl rfl rfl rfl ?_|refine ks_l01Once c2.key.2 4 o3 rfl rfl rfl rfl ?_|refine ks_l01Below c4 w.fSeens.length o4 rfl rfl rfl rfl ?_|refine ks_l01Below (c4.below w.fSeens.length).2 x.fPairs.length o5 rfl rfl rfl rfl ?_|fail);simp -implicitDefEqProofs only [go_sem,Cur.cells,wdV_eq,hw,dn,ho,hj,hk,lget_GSeenS hx,lget_GPairS hy,dm])
      try rfl
    ·have dm:decide ((0:Int)<(x.fPairs.length:Int))=false:=decide_eq_false (by omega)
     rw [if_neg hm] at hE
     subst hE
     cases wr
     all_goals
      simp -implicitDefEqProofs only [go_sem,Cur.cells,wdV_eq,hw,dn,ho,hj,lget_GSeenS hx,dm]
      repeat ((first|refine rq ?_|refine wy ?_|refine wn ?_|refine gy ?_|refine gn ?_|refine ks_l05Key c2 o2 rfl rfl rfl rfl ?_|refine ks_l01Once c2.key.2 4 o3 rfl rfl rfl rfl ?_|refine ks_l01Below c4 w.fSeens.length o4 rfl rfl rfl rfl ?_|refine ks_l01Below (c4.below w.fSeens.length).2 x.fPairs.length o5 rfl rfl rfl rfl ?_|fail);simp -implicitDefEqProofs only [go_sem,Cur.cells,wdV_eq,hw,dn,ho,hj,lget_GSeenS hx,dm])
      try rfl
   ·rw [if_neg (by simp)] at hE
    subst hE
    cases wr
    ·simp -implicitDefEqProofs only [go_sem,Cur.cells,wdV_eq,hw,dn,ho]
     repeat ((first|refine rq ?_|refine wy ?_|refine wn ?_|refine gy ?_|refine gn ?_|refine ks_l05Key c2 o2 rfl rfl rfl rfl ?_|refine ks_l01Once c2.key.2 4 o3 rfl rfl rfl rfl ?_|fail);simp -implicitDefEqProofs only [go_sem,Cur.cells,wdV_eq,hw,dn,ho])
     try rfl
    ·simp -implicitDefEqProofs only [go_sem,Cur.cells,wdV_eq,hw,dn,ho]
     repeat ((first|refine rq ?_|refine wy ?_|refine wn ?_|refine gy ?_|refine gn ?_|refine ks_l05Key c2 o2 rfl rfl rfl rfl ?_|refine ks_l01Once c2.key.2 4 o3 rfl rfl rfl rfl ?_|fail);simp -implicitDefEqProofs only [go_sem,Cur.cells,wdV_eq,hw,dn,ho])
     try rfl
  ·have dn:decide ((0:Int)<(w.fSeens.length:Int))=false:=decide_eq_false (by omega)
   rw [if_neg hn] at hE
   subst hE
   cases wr
   ·simp -implicitDefEqProofs only [go_sem,Cur.cells,wdV_eq,hw,dn]
    repeat ((first|refine rq ?_|refine wy ?_|refine wn ?_|refine gy ?_|refine gn ?_|refine ks_l05Key c2 o2 rfl rfl rfl rfl ?_|fail);simp -implicitDefEqProofs only [go_sem,Cur.cells,wdV_eq,hw,dn])
    try rfl
   ·simp -implicitDefEqProofs only [go_sem,Cur.cells,wdV_eq,hw,dn]
    repeat ((first|refine rq ?_|refine wy ?_|refine wn ?_|refine gy ?_|refine gn ?_|refine ks_l05Key c2 o2 rfl rfl rfl rfl ?_|fail);simp -implicitDefEqProofs only [go_sem,Cur.cells,wdV_eq,hw,dn])
    try rfl
 ·have hk1:(if w.fStore.fWriting=false∧((8:Int)=2∨(8:Int)=3∨(8:Int)=4) then (1:Int) else 8)=8:=if_neg fun h=>absurd h.2 (by decide)
  rw [hk1,if_neg (show ¬((8:Int)=5) by decide)] at hE
  have hE:(evt 8 (if 0<w.fSeens.length then (w.fSeens.getD 0 seen0).fId else 1+b) [] [],c2)=E:=hE
  generalize hw:w.fStore.fWriting=wr
  by_cases hn:0<w.fSeens.length
  ·have dn:decide ((0:Int)<(w.fSeens.length:Int))=true:=decide_eq_true (by omega)
   obtain ⟨x,hx⟩:=some_at (l:=w.fSeens) (i:=0) (by omega)
   have hg:w.fSeens.getD 0 seen0=x:=by rw [List.getD_eq_getElem?_getD,hx];rfl
   rw [if_pos hn,hg] at hE
   subst hE
   cases wr
   ·simp -implicitDefEqProofs only [go_sem,Cur.cells,wdV_eq,hw,dn,lget_GSeenS hx]
    repeat ((first|refine rq ?_|refine wy ?_|refine wn ?_|refine gy ?_|refine gn ?_|fail);simp -implicitDefEqProofs only [go_sem,Cur.cells,wdV_eq,hw,dn,lget_GSeenS hx])
    try rfl
   ·simp -implicitDefEqProofs only [go_sem,Cur.cells,wdV_eq,hw,dn,lget_GSeenS hx]
    repeat ((first|refine rq ?_|refine wy ?_|refine wn ?_|refine gy ?_|refine gn ?_|fail);simp -implicitDefEqProofs only [go_sem,Cur.cells,wdV_eq,hw,dn,lget_GSeenS hx])
    try rfl
  ·have dn:decide ((0:Int)<(w.fSeens.length:Int))=false:=decide_eq_false (by omega)
   rw [if_neg hn] at hE
   subst hE
   cases wr
   ·simp -implicitDefEqProofs only [go_sem,Cur.cells,wdV_eq,hw,dn]
    repeat ((first|refine rq ?_|refine wy ?_|refine wn ?_|refine gy ?_|refine gn ?_|fail);simp -implicitDefEqProofs only [go_sem,Cur.cells,wdV_eq,hw,dn])
    try rfl
   ·simp -implicitDefEqProofs only [go_sem,Cur.cells,wdV_eq,hw,dn]
    repeat ((first|refine rq ?_|refine wy ?_|refine wn ?_|refine gy ?_|refine gn ?_|fail);simp -implicitDefEqProofs only [go_sem,Cur.cells,wdV_eq,hw,dn])
    try rfl
 ·have hk1:(if w.fStore.fWriting=false∧((9:Int)=2∨(9:Int)=3∨(9:Int)=4) then (1:Int) else 9)=9:=if_neg fun h=>absurd h.2 (by decide)
  rw [hk1,if_neg (show ¬((9:Int)=5) by decide)] at hE
  subst hE
  cases hw:w.fStore.fWriting
  ·simp -implicitDefEqProofs only [go_sem,Cur.cells,wdV_eq,hw]
   repeat ((first|refine rq ?_|refine wy ?_|refine wn ?_|refine gy ?_|refine gn ?_|fail);simp -implicitDefEqProofs only [go_sem,Cur.cells,wdV_eq,hw])
   try rfl
  ·simp -implicitDefEqProofs only [go_sem,Cur.cells,wdV_eq,hw]
   repeat ((first|refine rq ?_|refine wy ?_|refine wn ?_|refine gy ?_|refine gn ?_|fail);simp -implicitDefEqProofs only [go_sem,Cur.cells,wdV_eq,hw])
   try rfl
end Go.Rx
