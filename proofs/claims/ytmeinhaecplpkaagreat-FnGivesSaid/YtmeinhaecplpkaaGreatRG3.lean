/-
  Part G3: lemmas on an evaluator over plain data of the model's code, plain laws on lists and numbers, or contracts of functions of the program; each lemma names its conditions.
-/
import Derived.Test.YtmeinhaecplpkaaGreatRG2
import Derived.Test.YtmeinhaecplpkaaGreatRP5
import Derived.Test.YtmeinhaecplpkaaGreatRA8

set_option linter.unusedSimpArgs false
set_option linter.unusedVariables false
namespace Go.Rx
open Go
attribute [local irreducible] Req Way WayG Sel callVC CallOK seqVC cVC loopVC nextK
@[go_sem] def hr150:Hints
 |0=> [0]|1=> [0,2]|2=> [0,2,3]|3=> [0,2,3,5]|4=> [0,2,3,5]|5=> [0,2,3,5]|6=> [0,2,3]|_=> []
@[go_sem] def hl150:Hints
 |3=> [0,2,3,5]|_=> []
attribute [go_sem] Go.Proofs.Tryz.results150
set_option maxRecDepth 100000 in
set_option maxHeartbeats 16000000 in
theorem cs_l16Short (c:Cur) (hc:c.ok):CallOK Go.Proofs.Tryz.prog 150 [.ref 0 0] [(0,.box c.cells)] [.ref 0 0] (.agg (wdV (shortW c).1)) [(0,.box (shortW c).2.cells)]:=by
 refine call_of tysZOK mixedZ Go.Proofs.Tryz.func150 (by kernel_rfl) rfl (np:=[true]) (by kernel_rfl) hr150 hl150 (by simp [Go.Proofs.Tryz.ntmps150]) ?_
 have hr:=Cur.below_range (c:=c) (n:=21) (by decide)
 have o1:=Cur.below_ok (n:=21) hc
 obtain ⟨n,hn⟩:=Int.eq_ofNat_of_zero_le hr.1
 have hs0:shortW c=shortGo 30 0 (c.below 21).2 (newW (20+n)):=by rw [shortW,hn];rfl
 have hn2:4≤20+n∧20+n≤40:=by omega
 have e1:IntKind.i64.wrap (20+(n:Int))=((20+n:Nat):Int):=by rw [wrap_int (by omega) (by omega)];omega
 simp -implicitDefEqProofs only [go_sem,Cur.cells]
 repeat ((first|refine rq ?_|refine ks_l01Below c 21 hc rfl rfl rfl rfl ?_|refine ks_l16New (20+n) hn2 (by simp -implicitDefEqProofs only [go_sem];first|done|rfl) ?_|fail);simp -implicitDefEqProofs only [go_sem,Cur.cells,hn,e1,GWorld.cells])
 have key:∀(L:St),L=L:=fun _=>rfl
 refine loop_data (α:=Nat×Cur×GWorld) (fun x=>⟨[(0,.ref 0 0),(2,.ref 1 0),(3,.ref 17 0),(5,.d (.int .i64 (x.1:Nat)))],[(0,some (.box x.2.1.cells)),(1,some (.box [.own 2 0 0,.own 3 0 0,.d (.int .i64 0),.d (.int .i64 0),.d (.int .i64 0),.own 4 0 0,.own 5 0 0,.d (.int .i64 0),.d (.int .i64 0),.d (.int .i64 0),.own 6 0 0,.own 7 0 0,.own 8 0 0,.d (.int .i64 0),.own 9 0 0,.own 10 0 0,.own 11 0 0,.d (.int .i64 0),.d (.bool false),.d (.bool false),.own 12 0 0,.own 13 0 0,.own 14 0 0,.own 15 0 0,.own 16 0 0])),(2,some (.arr 1 [])),(3,some (.arr 2 [])),(4,some (.arr 2 [])),(5,some (.arr 5 [])),(6,some (.arr 2 [])),(7,some (.arr 1 [])),(8,some (.arr 2 [])),(9,some (.arr 1 [])),(10,some (.arr 1 [])),(11,some (.arr 1 [])),(12,some (.arr 2 [])),(13,some (.arr 2 [])),(14,some (.arr 2 [])),(15,some (.arr 1 [])),(16,some (.arr 1 [])),(17,some (.box (wdV x.2.2)))]⟩)
  (fun x=>x.1<30∧x.2.1.ok∧x.2.2.fCodes.length≤x.1∧x.2.2.fTold.length≤x.1∧(∃pg view,WInv x.2.2 pg view)∧shortGo (30 - x.1) x.1 x.2.1 x.2.2=shortW c) (fun x=>30 - x.1) (0,(c.below 21).2,newW (20+n)) rfl ⟨by simp,o1,by simp [newW],by simp [newW],⟨_,_,newW_inv hn2⟩,hs0.symm⟩ ?_
 rintro ⟨i,d,w⟩ ⟨i1,i2,i3,i4,⟨pg,view,i5⟩,i6⟩
 simp only at i1 i2 i3 i4 i5 i6
 have hr2:=Cur.below_range (c:=d) (n:=24) (by decide)
 have o2:=Cur.below_ok (n:=24) i2
 have hgo:=shortGo_go (i:=i) (c:=d) (w:=w)
 have hstop:=shortGo_stop (i:=i) (c:=d) (w:=w)
 rw [i6] at hgo hstop
 rcases hB:d.below 24 with ⟨b,d2⟩
 rw [hB] at hr2 o2 hgo hstop
 simp only at hr2 o2 hgo hstop
 have e2:IntKind.i64.wrap (6+b)=6+b:=wrap_int (by omega) (by omega)
 by_cases hc2:(i:Int)<6+b
 ·have dc:=decide_eq_true hc2
  have hgo:=hgo hc2 i1
  have hnx:=cs_l16Next i5 o2
  have hkd:= @nextE_kind d2 w
  have hpl:=(@nextE_plain d2 w).2.1
  have hok:=nextE_ok (w:=w) o2
  generalize nextE d2 w=E at hgo hnx hkd hpl hok
  obtain ⟨e,d3⟩:=E
  simp only at hgo hnx hkd hpl hok
  have hst:=cs_l16Step (e:=e) i5 (by omega) (by rw [hpl];simp) (by omega) (by omega)
  obtain ⟨pg',view',hi'⟩:=stepF_inv (e:=e) i5
  have hcl:= @stepF_codes w e
  generalize stepF w e=w2 at hgo hst hi' hcl
  simp -implicitDefEqProofs only [go_sem,Cur.cells,wdV_eq,hB,e2,dc]
  repeat ((first|refine rq ?_|refine wy ?_|refine wn ?_|refine gy ?_|refine gn ?_|refine ks_l01Below d 24 i2 rfl rfl rfl rfl ?_|refine call_box2 (n:=0) (m:=17) hnx rfl rfl rfl rfl rfl rfl rfl (fun _=>rfl) (fun _=>rfl) ?_|fail);simp -implicitDefEqProofs only [go_sem,Cur.cells,wdV_eq,hB,e2,dc])
  refine call_box_ false (xs:=[.agg e.cells]) (cells:=wdV w) rfl rfl rfl (by simp -implicitDefEqProofs only [go_sem];first|done|rfl) rfl hst rfl rfl (.inr (.inl rfl)) ?_
  simp -implicitDefEqProofs only [go_sem,Cur.cells,wdV_eq]
  repeat ((first|refine rq ?_|refine wy ?_|refine wn ?_|refine gy ?_|refine gn ?_|fail);simp -implicitDefEqProofs only [go_sem,Cur.cells,wdV_eq])
  rw [wrap_succ (by simp only [LEN];omega)]
  exact next_data (i+1,d3,w2) rfl ⟨by simp only;omega,hok,by simp only;omega,by simp only;omega,⟨pg',view',hi'⟩,hgo.symm⟩ (by simp only;omega)
 ·have dc:=decide_eq_false hc2
  have hstop:=hstop hc2 i1
  rw [hstop]
  simp -implicitDefEqProofs only [go_sem,Cur.cells,hB,e2,dc,wdV_eq]
  repeat ((first|refine rq ?_|refine wy ?_|refine wn ?_|refine gy ?_|refine gn ?_|refine ks_l01Below d 24 i2 rfl rfl rfl rfl ?_|fail);simp -implicitDefEqProofs only [go_sem,Cur.cells,hB,e2,dc,wdV_eq])
  try rfl
theorem ks_l16Short {h:Heap} {tb:Nat} {K:OK} {n0:Nat} {rest:List V} (c:Cur) (hc:c.ok) (hn:h n0=some (.box c.cells)) (hro:refO h n0=[n0]) (hr:toDs h rest=some ([],[])) (hnl:([]:List Nat).contains n0=false)
  (hk:K (renV (bx n0 tb [(0,.box (shortW c).2.cells)]) (.agg (wdV (shortW c).1))) ((bif false then ([]:List Nat).map (·,none) else [])++(n0,none)::updX n0 tb [(0,.box (shortW c).2.cells)] [(0,.box (shortW c).2.cells)])):callVC Go.Proofs.Tryz.prog h tb 150 (.ref n0 0::rest) K:=
 call_box_ false hn hro rfl hr hnl (cs_l16Short c hc) rfl rfl (.inr (.inl rfl)) hk
end Go.Rx
namespace Go.Rx
open Go
attribute [local irreducible] Req Way WayG Sel callVC CallOK seqVC cVC loopVC nextK
@[go_sem] def hr77:Hints
 |0=> [0]|1=> [0,2]|2=> [0,2,3]|_=> []
@[go_sem] def hl77:Hints:=fun _=> []
attribute [go_sem] Go.Proofs.Tryz.results77
set_option maxRecDepth 100000 in
set_option maxHeartbeats 16000000 in
theorem cs_l07Store (c:Cur) (hc:c.ok):CallOK Go.Proofs.Tryz.prog 77 [.ref 0 0] [(0,.box c.cells)] [.ref 0 0] (.agg (sdV (shortW c).1.fStore)) [(0,.box (shortW c).2.cells)]:=by
 refine call_of tysZOK mixedZ Go.Proofs.Tryz.func77 (by kernel_rfl) rfl (np:=[true]) (by kernel_rfl) hr77 hl77 (by simp [Go.Proofs.Tryz.ntmps77]) ?_
 simp -implicitDefEqProofs only [go_sem,Cur.cells]
 refine ks_l16Short c hc rfl rfl rfl rfl ?_
 generalize shortW c=r
 obtain ⟨w,d⟩:=r
 simp -implicitDefEqProofs only [go_sem,Cur.cells,wdV_eq,sdV_eq]
 repeat ((first|refine rq ?_|refine wy ?_|refine wn ?_|refine gy ?_|refine gn ?_|fail);simp -implicitDefEqProofs only [go_sem,Cur.cells,wdV_eq,sdV_eq])
 try rfl
theorem ks_l07Store {h:Heap} {tb:Nat} {K:OK} {n0:Nat} {rest:List V} (c:Cur) (hc:c.ok) (hn:h n0=some (.box c.cells)) (hro:refO h n0=[n0]) (hr:toDs h rest=some ([],[])) (hnl:([]:List Nat).contains n0=false)
  (hk:K (renV (bx n0 tb [(0,.box (shortW c).2.cells)]) (.agg (sdV (shortW c).1.fStore))) ((bif false then ([]:List Nat).map (·,none) else [])++(n0,none)::updX n0 tb [(0,.box (shortW c).2.cells)] [(0,.box (shortW c).2.cells)])):callVC Go.Proofs.Tryz.prog h tb 77 (.ref n0 0::rest) K:=
 call_box_ false hn hro rfl hr hnl (cs_l07Store c hc) rfl rfl (.inr (.inl rfl)) hk
@[go_sem] def hr19:Hints
 |0=> [0]|1=> [0,2]|_=> []
@[go_sem] def hl19:Hints:=fun _=> []
attribute [go_sem] Go.Proofs.Tryz.results19
@[go_sem] def hr74:Hints
 |0=> [0]|1=> [0,2]|2=> [0,2,3]|3=> [0,2,4]|4=> [0,2,4,5]|5=> [0,2,4,5]|6=> [0,2,4,5]|7=> [0,2,4,5]|8=> [0,2,4,5]|9=> [0,2,4]|_=> []
@[go_sem] def hl74:Hints
 |4=> [0,2,4,5]|_=> []
attribute [go_sem] Go.Proofs.Tryz.results74
set_option maxRecDepth 100000 in
set_option maxHeartbeats 16000000 in
theorem cs_l11Txn (c:Cur) (hc:c.ok):CallOK Go.Proofs.Tryz.prog 74 [.ref 0 0] [(0,.box c.cells)] [.ref 0 0] (.agg (tdV (txnD c).1)) [(0,.box (txnD c).2.cells)]:=by
 refine call_of tysZOK mixedZ Go.Proofs.Tryz.func74 (by kernel_rfl) rfl (np:=[true]) (by kernel_rfl) hr74 hl74 (by simp [Go.Proofs.Tryz.ntmps74]) ?_
 obtain ⟨pg0,view,hW⟩:=shortW_inv (c:=c)
 have hi:=hW.store
 have hs:=hi.small
 have hf:=smallS_free hs
 have o1:=shortW_ok hc
 simp -implicitDefEqProofs only [go_sem,Cur.cells]
 refine ks_l07Store c hc rfl rfl rfl rfl ?_
 have h0:txnD c=txnGo 6 0 (shortW c).2 (beginT (shortW c).1.fStore.fDisk (shortW c).1.fStore.fMeta (oldestOf (shortW c).1.fStore)):=rfl
 rw [h0]
 have hb:=beginT_inv (oldest:=oldestOf (shortW c).1.fStore) hi.disk
 generalize shortW c=r at hW hi hs hf o1 hb ⊢
 obtain ⟨w,d0⟩:=r
 simp only at hW hi hs hf o1 hb ⊢
 simp -implicitDefEqProofs only [go_sem,Cur.cells,sdV_eq,GTxn.cells]
 repeat ((first|refine rq ?_|refine wy ?_|refine wn ?_|refine gy ?_|refine gn ?_|refine ks_OldestOf w.fStore hs (by simp -implicitDefEqProofs only [go_sem,GStore.cells_eq];first|done|rfl) ?_|refine ks_Begin w.fStore.fDisk w.fStore.fMeta (oldestOf w.fStore) hs.disk (smallGMeta_ok hs.mt) hf (by simp -implicitDefEqProofs only [go_sem,GDisk.cells_eq,GMeta.cells_eq];first|done|rfl) ?_|fail);simp -implicitDefEqProofs only [go_sem,Cur.cells,sdV_eq,GTxn.cells])
 have hB:=hi.disk.pages_len
 generalize beginT w.fStore.fDisk w.fStore.fMeta (oldestOf w.fStore)=t0 at hb ⊢
 refine loop_data (α:=Nat×Cur×GTxn) (fun x=>⟨[(0,.ref 0 0),(2,.ref 1 0),(4,.ref 8 0),(5,.d (.int .i64 (x.1:Nat)))],[(0,some (.box x.2.1.cells)),(1,some (.box [.d (.int .i64 0),.d (.int .i64 0),.d (.int .i64 0),.own 2 0 0,.own 3 0 0,.own 4 0 0,.d (.int .i64 0),.own 5 0 0,.own 6 0 0,.own 7 0 0,.d (.int .i64 0)])),(2,some (.arr 2 [])),(3,some (.arr 1 [])),(4,some (.arr 2 [])),(5,some (.arr 1 [])),(6,some (.arr 1 [])),(7,some (.arr 1 [])),(8,some (.box (tdV x.2.2)))]⟩)
  (fun x=>x.1<6∧x.2.1.ok∧(∃ps pg,TxnInv w.fStore.fDisk w.fStore.fMeta (oldestOf w.fStore) pg0 x.2.2 ps pg)∧txnGo (6 - x.1) x.1 x.2.1 x.2.2=txnGo 6 0 d0 t0) (fun x=>6 - x.1) (0,d0,t0) rfl ⟨by simp,o1,⟨_,_,hb⟩,rfl⟩ ?_
 rintro ⟨i,d,t⟩ ⟨i1,i2,⟨ps,pg,i3⟩,i4⟩
 simp only at i1 i2 i3 i4
 have hr2:=Cur.below_range (c:=d) (n:=6) (by decide)
 have o2:=Cur.below_ok (n:=6) i2
 have hgo:=txnGo_go (i:=i) (c:=d) (t:=t)
 have hstop:=txnGo_stop (i:=i) (c:=d) (t:=t)
 rw [i4] at hgo hstop
 rcases hBq:d.below 6 with ⟨b,d2⟩
 rw [hBq] at hr2 o2 hgo hstop
 simp only at hr2 o2 hgo hstop
 have hm:smallGMeta t.fBase:=by rw [i3.base];exact smallGMeta_ok hs.mt
 by_cases hc2:(i:Int)<b
 ·have dc:=decide_eq_true hc2
  have hgo:=hgo hc2 i1
  obtain ⟨ps',pg',i5⟩:=txnStep_inv (c:=d2) i3
  have o3:=Cur.once_ok (n:=4) o2
  have o6:=txnStep_ok (t:=t) o2
  unfold txnStep at hgo i5 o6
  rcases hO:d2.once 4 with ⟨q,d3⟩
  rw [hO] at hgo i5 o6 o3
  simp only at hgo i5 o6 o3
  have o4:=Cur.key_ok o3
  rcases hK:d3.key with ⟨key,d4⟩
  rw [hK] at hgo i5 o6 o4
  simp only at hgo i5 o6 o4
  cases q
  ·simp only [Bool.false_eq_true,if_false] at hgo i5 o6
   rcases hP:d4.pick vals3 with ⟨val,d5⟩
   rw [hP] at hgo i5 o6
   simp only at hgo i5 o6
   have hv:txnV (putT t key val) t= .tup [.d (.agg ((putT t key val).getD t).cells),.d (.bool (putT t key val).isSome)]:=rfl
   simp -implicitDefEqProofs only [go_sem,Cur.cells,tdV_eq,GTxn.cells,hBq,dc,hO,hK,hP,hv]
   repeat ((first|refine rq ?_|refine wy ?_|refine wn ?_|refine gy ?_|refine gn ?_|refine ks_l01Below d 6 i2 rfl rfl rfl rfl ?_|refine ks_l01Once d2 4 o2 rfl rfl rfl rfl ?_|refine ks_l05Key d3 o3 rfl rfl rfl rfl ?_|refine ks_l01Pick d4 vals3 (by decide) o4 rfl rfl rfl rfl ?_|refine ks_TxnPut t key val hB hm i3.txs (by simp -implicitDefEqProofs only [go_sem,GTxn.cells_eq];first|done|rfl) ?_|fail);simp -implicitDefEqProofs only [go_sem,Cur.cells,tdV_eq,GTxn.cells,hBq,dc,hO,hK,hP,hv])
   generalize (putT t key val).getD t=u at hgo i5 ⊢
   rw [wrap_succ (by simp only [LEN];omega)]
   exact next_data (i+1,d5,u) rfl ⟨by simp only;omega,o6,⟨_,_,i5⟩,hgo.symm⟩ (by simp only;omega)
  ·simp only [if_true] at hgo i5 o6
   have hv:txnV (dropT t key) t= .tup [.d (.agg ((dropT t key).getD t).cells),.d (.bool (dropT t key).isSome)]:=rfl
   simp -implicitDefEqProofs only [go_sem,Cur.cells,tdV_eq,GTxn.cells,hBq,dc,hO,hK,hv]
   repeat ((first|refine rq ?_|refine wy ?_|refine wn ?_|refine gy ?_|refine gn ?_|refine ks_l01Below d 6 i2 rfl rfl rfl rfl ?_|refine ks_l01Once d2 4 o2 rfl rfl rfl rfl ?_|refine ks_l05Key d3 o3 rfl rfl rfl rfl ?_|refine ks_TxnDrop t key hB hm i3.txs (by simp -implicitDefEqProofs only [go_sem,GTxn.cells_eq];first|done|rfl) ?_|fail);simp -implicitDefEqProofs only [go_sem,Cur.cells,tdV_eq,GTxn.cells,hBq,dc,hO,hK,hv])
   generalize (dropT t key).getD t=u at hgo i5 ⊢
   rw [wrap_succ (by simp only [LEN];omega)]
   exact next_data (i+1,d4,u) rfl ⟨by simp only;omega,o6,⟨_,_,i5⟩,hgo.symm⟩ (by simp only;omega)
 ·have dc:=decide_eq_false hc2
  have hstop:=hstop hc2 i1
  rw [hstop]
  simp -implicitDefEqProofs only [go_sem,Cur.cells,tdV_eq,hBq,dc]
  repeat ((first|refine rq ?_|refine wy ?_|refine wn ?_|refine gy ?_|refine gn ?_|refine ks_l01Below d 6 i2 rfl rfl rfl rfl ?_|fail);simp -implicitDefEqProofs only [go_sem,Cur.cells,tdV_eq,hBq,dc])
  try rfl
theorem ks_l11Txn {h:Heap} {tb:Nat} {K:OK} {n0:Nat} {rest:List V} (c:Cur) (hc:c.ok) (hn:h n0=some (.box c.cells)) (hro:refO h n0=[n0]) (hr:toDs h rest=some ([],[])) (hnl:([]:List Nat).contains n0=false)
  (hk:K (renV (bx n0 tb [(0,.box (txnD c).2.cells)]) (.agg (tdV (txnD c).1))) ((bif false then ([]:List Nat).map (·,none) else [])++(n0,none)::updX n0 tb [(0,.box (txnD c).2.cells)] [(0,.box (txnD c).2.cells)])):callVC Go.Proofs.Tryz.prog h tb 74 (.ref n0 0::rest) K:=
 call_box_ false hn hro rfl hr hnl (cs_l11Txn c hc) rfl rfl (.inr (.inl rfl)) hk
@[go_sem] def hr16:Hints
 |0=> [0]|1=> [0,2]|_=> []
@[go_sem] def hl16:Hints:=fun _=> []
attribute [go_sem] Go.Proofs.Tryz.results16
set_option maxRecDepth 100000 in
set_option maxHeartbeats 16000000 in
theorem cs_DrawTxn (code:List UInt8) (hl:code.length≤1048576):CallOK Go.Proofs.Tryz.prog 16 [.d (.sl (bys code))] [] [.dead] (.d (.agg (txnD (Cur.new code)).1.cells)) []:=by
 refine call_fr tysZOK mixedZ Go.Proofs.Tryz.func16 (by kernel_rfl) rfl (by kernel_rfl) hr16 hl16 (by simp [Go.Proofs.Tryz.ntmps16]) rfl ?_
 have o1:=Cur.new_ok hl
 simp -implicitDefEqProofs only [go_sem]
 refine ks_l01New code hl rfl ?_
 simp -implicitDefEqProofs only [go_sem,Cur.cells]
 repeat ((first|refine ks_l11Txn (Cur.new code) o1 rfl rfl rfl rfl ?_|fail);simp -implicitDefEqProofs only [go_sem,Cur.cells])
 generalize txnD (Cur.new code)=r
 simp -implicitDefEqProofs only [go_sem,tdV_eq,Cur.cells]
 repeat ((first|refine rq ?_|refine wy ?_|refine wn ?_|refine gy ?_|refine gn ?_|fail);simp -implicitDefEqProofs only [go_sem,tdV_eq,Cur.cells])
 try rfl
theorem ks_DrawTxn {h:Heap} {tb:Nat} {K:OK} {args:List V} (code:List UInt8) (hl:code.length≤1048576) (hg:toDs h args=some ([.sl (bys code)],[]))
  (hk:K (renV (bk tb ([])) (.d (.agg (txnD (Cur.new code)).1.cells))) (updN tb ([]) ([]))):callVC Go.Proofs.Tryz.prog h tb 16 args K:=
 call_free hg (cs_DrawTxn code hl) rfl (.inl rfl) hk
end Go.Rx
