/-
  Part G3: lemmas on an evaluator over plain data of the model's code, plain laws on lists and numbers, or contracts of functions of the program; each lemma names its conditions.
-/
import Derived.Test.YtflimjgjgligeaaGreatSG2
import Derived.Test.YtflimjgjgligeaaGreatSP5
import Derived.Test.YtflimjgjgligeaaGreatSA8

set_option linter.unusedSimpArgs false
set_option linter.unusedVariables false
set_option maxRecDepth 100000
set_option maxHeartbeats 16000000
set_option linter.defProp false
namespace Go.Rx
open Go
attribute [local irreducible] Req Way WayG Sel Z2 ZQ Zaz cVC Zai ZaO
@[go_sem] def hr152:ZW:=hh [[0],[0,2],[0,2,3],[0,2,3,5],[0,2,3,5],[0,2,3,5],[0,2,3]]
@[go_sem] def hl152:ZW:=hh [[],[],[],[0,2,3,5]]
attribute [go_sem] Go.Proofs.Tryz.results152
theorem Zpz (c:Cur) (hc:c.ok):ZQ Go.Proofs.Tryz.prog 152 [.ref 0 0] [(0,.box c.cells)] [.ref 0 0] (.agg (wdV (Zbr c).1)) [(0,.box (Zbr c).2.cells)]:=by
 refine cof Go.Proofs.Tryz.func152 hr152 hl152 [true] ?_;have hr:=Cur.below_range (c:=c) (n:=21) (by decide);have o1:=Cur.below_ok (n:=21) hc;obtain ⟨n,hn⟩:=Int.eq_ofNat_of_zero_le hr.1;have hs0:Zbr c=ZcZ 30 0 (c.below 21).2 (newW (20+n)):=by rw [Zbr,hn];rfl
 have hn2:4≤20+n∧20+n≤40:=by omega
 have e1:IntKind.i64.wrap (20+(n:Int))=((20+n:Nat):Int):=by rw [Zad (by omega) (by omega)];omega
 simp -implicitDefEqProofs only [go_sem,Cur.cells];repeat ((first|refine rq ?_|refine Za0 c 21 hc rfl rfl rfl rfl ?_|refine ZuO (20+n) hn2 (by simp -implicitDefEqProofs only [go_sem];first|done|rfl) ?_|fail);simp -implicitDefEqProofs only [go_sem,Cur.cells,hn,e1,Zac.cells])
 have key:∀(L:St),L=L:=fun _=>rfl
 refine ZY (α:=Nat×Cur×Zac) (fun x=>⟨[(0,.ref 0 0),(2,.ref 1 0),(3,.ref 17 0),(5,.d (.int .i64 (x.1:Nat)))],[(0,some (.box x.2.1.cells)),(1,some (.box [.own 2 0 0,.own 3 0 0,.d (.int .i64 0),.d (.int .i64 0),.d (.int .i64 0),.own 4 0 0,.own 5 0 0,.d (.int .i64 0),.d (.int .i64 0),.d (.int .i64 0),.own 6 0 0,.own 7 0 0,.own 8 0 0,.d (.int .i64 0),.own 9 0 0,.own 10 0 0,.own 11 0 0,.d (.int .i64 0),.d (.bool false),.d (.bool false),.own 12 0 0,.own 13 0 0,.own 14 0 0,.own 15 0 0,.own 16 0 0])),(2,some (.arr 1 [])),(3,some (.arr 2 [])),(4,some (.arr 2 [])),(5,some (.arr 5 [])),(6,some (.arr 2 [])),(7,some (.arr 1 [])),(8,some (.arr 2 [])),(9,some (.arr 1 [])),(10,some (.arr 1 [])),(11,some (.arr 1 [])),(12,some (.arr 2 [])),(13,some (.arr 2 [])),(14,some (.arr 2 [])),(15,some (.arr 1 [])),(16,some (.arr 1 [])),(17,some (.box (wdV x.2.2)))]⟩)
  (fun x=>x.1<30∧x.2.1.ok∧x.2.2.Zb.length≤x.1∧x.2.2.ZD.length≤x.1∧(∃pg view,WInv x.2.2 pg view)∧ZcZ (30 - x.1) x.1 x.2.1 x.2.2=Zbr c) (fun x=>30 - x.1) (0,(c.below 21).2,newW (20+n)) rfl ⟨by simp,o1,by simp [newW],by simp [newW],⟨_,_,ZqU hn2⟩,hs0.symm⟩ ?_
 rintro ⟨i,d,w⟩ ⟨i1,i2,i3,i4,⟨pg,view,i5⟩,i6⟩;simp only at i1 i2 i3 i4 i5 i6;have hr2:=Cur.below_range (c:=d) (n:=24) (by decide);have o2:=Cur.below_ok (n:=24) i2;have hgo:=ZrI (i:=i) (c:=d) (w:=w);have hstop:=ZmW (i:=i) (c:=d) (w:=w);rw [i6] at hgo hstop;rcases hB:d.below 24 with ⟨b,d2⟩
 rw [hB] at hr2 o2 hgo hstop;simp only at hr2 o2 hgo hstop;have e2:IntKind.i64.wrap (6+b)=6+b:=Zad (by omega) (by omega);by_cases hc2:(i:Int)<6+b
 ·have dc:=decide_eq_true hc2;have hgo:=hgo hc2 i1;have hnx:=Zsz i5 o2;have hkd:= @ZrV d2 w;have hpl:=(@ZjD d2 w).2.1;have hok:=ZqT (w:=w) o2;generalize Ze5 d2 w=E at hgo hnx hkd hpl hok;obtain ⟨e,d3⟩:=E;simp only at hgo hnx hkd hpl hok;have hst:=Zsy (e:=e) i5 (by omega) (by rw [hpl];simp) (by omega) (by omega);obtain ⟨pg',view',hi'⟩:=ZmS (e:=e) i5;have hcl:= @ZoO w e;generalize Zl0 w e=w2 at hgo hst hi' hcl;simp -implicitDefEqProofs only [go_sem,Cur.cells,ZZ,hB,e2,dc];repeat ((first|refine rq ?_|refine wl ?_|refine gl ?_|refine Za0 d 24 i2 rfl rfl rfl rfl ?_|refine ZvP (n:=0) (m:=17) hnx rfl rfl rfl rfl rfl rfl rfl (fun _=>rfl) (fun _=>rfl) ?_|fail);simp -implicitDefEqProofs only [go_sem,Cur.cells,ZZ,hB,e2,dc])
  refine Zbz false (xs:=[.agg e.cells]) (cells:=wdV w) rfl rfl rfl (by simp -implicitDefEqProofs only [go_sem];first|done|rfl) rfl hst rfl rfl (.inr (.inl rfl)) ?_;simp -implicitDefEqProofs only [go_sem,Cur.cells,ZZ];repeat ((first|refine rq ?_|refine wl ?_|refine gl ?_|fail);simp -implicitDefEqProofs only [go_sem,Cur.cells,ZZ])
  rw [ZV (by simp only [LEN];omega)];exact ZP (i+1,d3,w2) rfl ⟨by simp only;omega,hok,by simp only;omega,by simp only;omega,⟨pg',view',hi'⟩,hgo.symm⟩ (by simp only;omega)
 ·have dc:=decide_eq_false hc2;have hstop:=hstop hc2 i1;rw [hstop];simp -implicitDefEqProofs only [go_sem,Cur.cells,hB,e2,dc,ZZ];repeat ((first|refine rq ?_|refine wl ?_|refine gl ?_|refine Za0 d 24 i2 rfl rfl rfl rfl ?_|fail);simp -implicitDefEqProofs only [go_sem,Cur.cells,hB,e2,dc,ZZ])
  try rfl
theorem Zo6 {h:Heap} {tb:Nat} {K:OK} {n0:Nat} {rest:List V} (c:Cur) (hc:c.ok) (hn:h n0=some (.box c.cells)) (hro:refO h n0=[n0]) (hr:toDs h rest=some ([],[])) (hnl:([]:List Nat).contains n0=false)
  (hk:K (renV (bx n0 tb [(0,.box (Zbr c).2.cells)]) (.agg (wdV (Zbr c).1))) ((bif false then ([]:List Nat).map (·,none) else [])++(n0,none)::updX n0 tb [(0,.box (Zbr c).2.cells)] [(0,.box (Zbr c).2.cells)])):Z2 Go.Proofs.Tryz.prog h tb 152 (.ref n0 0::rest) K:=
 Zbz false hn hro rfl hr hnl (Zpz c hc) rfl rfl (.inr (.inl rfl)) hk
@[go_sem] def hr68:ZW:=hh [[0],[0,2],[0,2,3]]
@[go_sem] def hl68:ZW:=hh []
attribute [go_sem] Go.Proofs.Tryz.results68
theorem ZpB (c:Cur) (hc:c.ok):ZQ Go.Proofs.Tryz.prog 68 [.ref 0 0] [(0,.box c.cells)] [.ref 0 0] (.agg (sdV (Zbr c).1.ZB)) [(0,.box (Zbr c).2.cells)]:=by
 refine cof Go.Proofs.Tryz.func68 hr68 hl68 [true] ?_;simp -implicitDefEqProofs only [go_sem,Cur.cells];refine Zo6 c hc rfl rfl rfl rfl ?_;generalize Zbr c=r;obtain ⟨w,d⟩:=r;simp -implicitDefEqProofs only [go_sem,Cur.cells,ZZ,ZkV];repeat ((first|refine rq ?_|refine wl ?_|refine gl ?_|fail);simp -implicitDefEqProofs only [go_sem,Cur.cells,ZZ,ZkV])
 try rfl
theorem ZjO {h:Heap} {tb:Nat} {K:OK} {n0:Nat} {rest:List V} (c:Cur) (hc:c.ok) (hn:h n0=some (.box c.cells)) (hro:refO h n0=[n0]) (hr:toDs h rest=some ([],[])) (hnl:([]:List Nat).contains n0=false)
  (hk:K (renV (bx n0 tb [(0,.box (Zbr c).2.cells)]) (.agg (sdV (Zbr c).1.ZB))) ((bif false then ([]:List Nat).map (·,none) else [])++(n0,none)::updX n0 tb [(0,.box (Zbr c).2.cells)] [(0,.box (Zbr c).2.cells)])):Z2 Go.Proofs.Tryz.prog h tb 68 (.ref n0 0::rest) K:=
 Zbz false hn hro rfl hr hnl (ZpB c hc) rfl rfl (.inr (.inl rfl)) hk
@[go_sem] def hr15:ZW:=hh [[0],[0,2]]
@[go_sem] def hl15:ZW:=hh []
attribute [go_sem] Go.Proofs.Tryz.results15
theorem Zod (code:List UInt8) (hl:code.length≤1048576):ZQ Go.Proofs.Tryz.prog 15 [.d (.sl (bys code))] [] [.dead] (.d (.agg (ZtY code).cells)) []:=by
 refine cofF Go.Proofs.Tryz.func15 hr15 hl15 ?_;have o1:=Cur.new_ok hl;unfold ZtY;simp -implicitDefEqProofs only [go_sem];refine Znr code hl rfl ?_;simp -implicitDefEqProofs only [go_sem,Cur.cells];repeat ((first|refine ZjO (Cur.new code) o1 rfl rfl rfl rfl ?_|fail);simp -implicitDefEqProofs only [go_sem,Cur.cells])
 generalize Zbr (Cur.new code)=r;simp -implicitDefEqProofs only [go_sem,ZkV,Cur.cells];repeat ((first|refine rq ?_|refine wl ?_|refine gl ?_|fail);simp -implicitDefEqProofs only [go_sem,ZkV,Cur.cells])
 try rfl
def Zx9 (code:List UInt8) (hl:code.length≤1048576):=kf (Zod code hl)
@[go_sem] def hr117:ZW:=hh [[0],[0,2],[0,2,3],[0,2,4],[0,2,4,5],[0,2,4,5],[0,2,4,5],[0,2,4,5],[0,2,4,5],[0,2,4]]
@[go_sem] def hl117:ZW:=hh [[],[],[],[],[0,2,4,5]]
attribute [go_sem] Go.Proofs.Tryz.results117
theorem Zvv (c:Cur) (hc:c.ok):ZQ Go.Proofs.Tryz.prog 117 [.ref 0 0] [(0,.box c.cells)] [.ref 0 0] (.agg (tdV (txnD c).1)) [(0,.box (txnD c).2.cells)]:=by
 refine cof Go.Proofs.Tryz.func117 hr117 hl117 [true] ?_;obtain ⟨pg0,view,hW⟩:=ZrH (c:=c);have hi:=hW.store;have hs:=hi.small;have hf:=Zjm hs;have o1:=Zt1 hc;simp -implicitDefEqProofs only [go_sem,Cur.cells];refine ZjO c hc rfl rfl rfl rfl ?_;have h0:txnD c=Zky 6 0 (Zbr c).2 (ZlK (Zbr c).1.ZB.Zc (Zbr c).1.ZB.Zp (Zco (Zbr c).1.ZB)):=rfl;rw [h0];have hb:=ZlJ (oldest:=Zco (Zbr c).1.ZB) hi.disk;generalize Zbr c=r at hW hi hs hf o1 hb ⊢;obtain ⟨w,d0⟩:=r;simp only at hW hi hs hf o1 hb ⊢;simp -implicitDefEqProofs only [go_sem,Cur.cells,ZkV,GTxn.cells]
 repeat ((first|refine rq ?_|refine wl ?_|refine gl ?_|refine ZjS w.ZB hs (by simp -implicitDefEqProofs only [go_sem,ZN.cells_eq];first|done|rfl) ?_|refine ZqY w.ZB.Zc w.ZB.Zp (Zco w.ZB) hs.disk (ZaK hs.mt) hf (by simp -implicitDefEqProofs only [go_sem,ZT.cells_eq,ZX.cells_eq];first|done|rfl) ?_|fail);simp -implicitDefEqProofs only [go_sem,Cur.cells,ZkV,GTxn.cells])
 have hB:=hi.disk.pages_len;generalize ZlK w.ZB.Zc w.ZB.Zp (Zco w.ZB)=t0 at hb ⊢;refine ZY (α:=Nat×Cur×GTxn) (fun x=>⟨[(0,.ref 0 0),(2,.ref 1 0),(4,.ref 8 0),(5,.d (.int .i64 (x.1:Nat)))],[(0,some (.box x.2.1.cells)),(1,some (.box [.d (.int .i64 0),.d (.int .i64 0),.d (.int .i64 0),.own 2 0 0,.own 3 0 0,.own 4 0 0,.d (.int .i64 0),.own 5 0 0,.own 6 0 0,.own 7 0 0,.d (.int .i64 0)])),(2,some (.arr 2 [])),(3,some (.arr 1 [])),(4,some (.arr 2 [])),(5,some (.arr 1 [])),(6,some (.arr 1 [])),(7,some (.arr 1 [])),(8,some (.box (tdV x.2.2)))]⟩)
  (fun x=>x.1<6∧x.2.1.ok∧(∃ps pg,ZcB w.ZB.Zc w.ZB.Zp (Zco w.ZB) pg0 x.2.2 ps pg)∧Zky (6 - x.1) x.1 x.2.1 x.2.2=Zky 6 0 d0 t0) (fun x=>6 - x.1) (0,d0,t0) rfl ⟨by simp,o1,⟨_,_,hb⟩,rfl⟩ ?_
 rintro ⟨i,d,t⟩ ⟨i1,i2,⟨ps,pg,i3⟩,i4⟩;simp only at i1 i2 i3 i4;have hr2:=Cur.below_range (c:=d) (n:=6) (by decide);have o2:=Cur.below_ok (n:=6) i2;have hgo:=Zwt (i:=i) (c:=d) (t:=t);have hstop:=Zrz (i:=i) (c:=d) (t:=t);rw [i4] at hgo hstop;rcases hBq:d.below 6 with ⟨b,d2⟩
 rw [hBq] at hr2 o2 hgo hstop;simp only at hr2 o2 hgo hstop;have hm:ZaD t.Za:=by rw [i3.base];exact ZaK hs.mt
 by_cases hc2:(i:Int)<b
 ·have dc:=decide_eq_true hc2;have hgo:=hgo hc2 i1;obtain ⟨ps',pg',i5⟩:=ZoH (c:=d2) i3;have o3:=Cur.once_ok (n:=4) o2;have o6:=Zry (t:=t) o2;unfold ZeV at hgo i5 o6;rcases hO:d2.once 4 with ⟨q,d3⟩
  rw [hO] at hgo i5 o6 o3;simp only at hgo i5 o6 o3;have o4:=Cur.key_ok o3;rcases hK:d3.key with ⟨key,d4⟩
  rw [hK] at hgo i5 o6 o4;simp only at hgo i5 o6 o4;cases q
  ·simp only [Bool.false_eq_true,if_false] at hgo i5 o6;rcases hP:d4.pick ZtH with ⟨val,d5⟩
   rw [hP] at hgo i5 o6;simp only at hgo i5 o6;have hv:txnV (putT t key val) t= .tup [.d (.agg ((putT t key val).getD t).cells),.d (.bool (putT t key val).isSome)]:=rfl;simp -implicitDefEqProofs only [go_sem,Cur.cells,Zie,GTxn.cells,hBq,dc,hO,hK,hP,hv];repeat ((first|refine rq ?_|refine wl ?_|refine gl ?_|refine Za0 d 6 i2 rfl rfl rfl rfl ?_|refine Zbu d2 4 o2 rfl rfl rfl rfl ?_|refine ZbR d3 o3 rfl rfl rfl rfl ?_|refine ZhW d4 ZtH (by decide) o4 rfl rfl rfl rfl ?_|refine ZjR t key val hB hm i3.txs (by simp -implicitDefEqProofs only [go_sem,GTxn.cells_eq];first|done|rfl) ?_|fail);simp -implicitDefEqProofs only [go_sem,Cur.cells,Zie,GTxn.cells,hBq,dc,hO,hK,hP,hv])
   generalize (putT t key val).getD t=u at hgo i5 ⊢;rw [ZV (by simp only [LEN];omega)];exact ZP (i+1,d5,u) rfl ⟨by simp only;omega,o6,⟨_,_,i5⟩,hgo.symm⟩ (by simp only;omega)
  ·simp only [if_true] at hgo i5 o6;have hv:txnV (ZgR t key) t= .tup [.d (.agg ((ZgR t key).getD t).cells),.d (.bool (ZgR t key).isSome)]:=rfl;simp -implicitDefEqProofs only [go_sem,Cur.cells,Zie,GTxn.cells,hBq,dc,hO,hK,hv];repeat ((first|refine rq ?_|refine wl ?_|refine gl ?_|refine Za0 d 6 i2 rfl rfl rfl rfl ?_|refine Zbu d2 4 o2 rfl rfl rfl rfl ?_|refine ZbR d3 o3 rfl rfl rfl rfl ?_|refine ZhX t key hB hm i3.txs (by simp -implicitDefEqProofs only [go_sem,GTxn.cells_eq];first|done|rfl) ?_|fail);simp -implicitDefEqProofs only [go_sem,Cur.cells,Zie,GTxn.cells,hBq,dc,hO,hK,hv])
   generalize (ZgR t key).getD t=u at hgo i5 ⊢;rw [ZV (by simp only [LEN];omega)];exact ZP (i+1,d4,u) rfl ⟨by simp only;omega,o6,⟨_,_,i5⟩,hgo.symm⟩ (by simp only;omega)
 ·have dc:=decide_eq_false hc2;have hstop:=hstop hc2 i1;rw [hstop];simp -implicitDefEqProofs only [go_sem,Cur.cells,Zie,hBq,dc];repeat ((first|refine rq ?_|refine wl ?_|refine gl ?_|refine Za0 d 6 i2 rfl rfl rfl rfl ?_|fail);simp -implicitDefEqProofs only [go_sem,Cur.cells,Zie,hBq,dc])
  try rfl
theorem ZuP {h:Heap} {tb:Nat} {K:OK} {n0:Nat} {rest:List V} (c:Cur) (hc:c.ok) (hn:h n0=some (.box c.cells)) (hro:refO h n0=[n0]) (hr:toDs h rest=some ([],[])) (hnl:([]:List Nat).contains n0=false)
  (hk:K (renV (bx n0 tb [(0,.box (txnD c).2.cells)]) (.agg (tdV (txnD c).1))) ((bif false then ([]:List Nat).map (·,none) else [])++(n0,none)::updX n0 tb [(0,.box (txnD c).2.cells)] [(0,.box (txnD c).2.cells)])):Z2 Go.Proofs.Tryz.prog h tb 117 (.ref n0 0::rest) K:=
 Zbz false hn hro rfl hr hnl (Zvv c hc) rfl rfl (.inr (.inl rfl)) hk
@[go_sem] def hr46:ZW:=hh [[0],[0,2]]
@[go_sem] def hl46:ZW:=hh []
attribute [go_sem] Go.Proofs.Tryz.results46
theorem ZsS (code:List UInt8) (hl:code.length≤1048576):ZQ Go.Proofs.Tryz.prog 46 [.d (.sl (bys code))] [] [.dead] (.d (.agg (txnD (Cur.new code)).1.cells)) []:=by
 refine cofF Go.Proofs.Tryz.func46 hr46 hl46 ?_;have o1:=Cur.new_ok hl;simp -implicitDefEqProofs only [go_sem];refine Znr code hl rfl ?_;simp -implicitDefEqProofs only [go_sem,Cur.cells];repeat ((first|refine ZuP (Cur.new code) o1 rfl rfl rfl rfl ?_|fail);simp -implicitDefEqProofs only [go_sem,Cur.cells])
 generalize txnD (Cur.new code)=r;simp -implicitDefEqProofs only [go_sem,Zie,Cur.cells];repeat ((first|refine rq ?_|refine wl ?_|refine gl ?_|fail);simp -implicitDefEqProofs only [go_sem,Zie,Cur.cells])
 try rfl
def ks_DrawTxn (code:List UInt8) (hl:code.length≤1048576):=kf (ZsS code hl)
end Go.Rx
