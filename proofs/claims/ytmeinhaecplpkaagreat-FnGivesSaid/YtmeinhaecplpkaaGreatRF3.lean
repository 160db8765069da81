/-
  Part F3: lemmas on an evaluator over plain data of the model's code, plain laws on lists and numbers, or contracts of functions of the program; each lemma names its conditions.
-/
import Derived.Test.YtmeinhaecplpkaaGreatRD6
import Derived.Test.YtmeinhaecplpkaaGreatRD2
import Derived.Test.YtmeinhaecplpkaaGreatRD1

set_option linter.unusedSimpArgs false
set_option linter.unusedVariables false
namespace Go.Rx
open Go
attribute [local irreducible] Req Way WayG Sel callVC CallOK seqVC cVC loopVC nextK
def seenV (w:GWorld) (n:Nat):List V:=(wdV w).take 22++ .own 1 0 n::(wdV w).drop 23
set_option maxRecDepth 100000 in
set_option maxHeartbeats 16000000 in
theorem cs_do6 {w:GWorld} {e:GEvent} {pg:List Int} {view:Int→List GPair} (hi:WInv w pg view) (hk:e.fKind=6):DoC w e (doF w e):=by
 have hd:doF w e=setW w (startReadF w.fStore e.fId) fun w=> {w with fSeens:=w.fSeens++[⟨e.fId,w.fModel⟩]}:=by unfold doF;rw [if_neg (by omega),if_neg (by omega),if_neg (by omega),if_neg (by omega),if_neg (by omega),if_pos hk]
 have hml:=hi.model_len
 have hsf:=hi.seens_few
 rcases hr:startReadF w.fStore e.fId with ⟨s',c⟩
 have hv:storeV (startReadF w.fStore e.fId)= .tup [.d (.agg s'.cells),.d (.int .i64 c)]:=by rw [hr];rfl
 rw [hd,hr]
 unfold setW DoC doV
 simp only
 by_cases hc:c=0
 ·have dc:=decide_eq_true hc
  rw [if_pos hc]
  refine freeze_box (H':=[(0,.box (seenV {w with fStore:=s'} (w.fSeens.length+1))),(1,.arr 2 (GSeenS (w.fSeens++[⟨e.fId,w.fModel⟩])))]) (res:= .tup [.d (.int .i64 c),.d (.str [])]) (ls:=[1]) (ls':=[]) (ds:=GWorld.cells {w with fStore:=s',fSeens:=w.fSeens++[⟨e.fId,w.fModel⟩]}) ?_ rfl ?_ rfl (by simp) rfl
  ·unfold seenV
   refine call_of tysZOK mixedZ Go.Proofs.Tryz.func239 (by kernel_rfl) rfl (np:=[true,false]) (by kernel_rfl) hr239 hl239 (by simp [Go.Proofs.Tryz.ntmps239]) ?_
   simp -implicitDefEqProofs only [go_sem,wdV_eq,GEvent.cells,hk]
   simp -implicitDefEqProofs only [go_sem,wdV_eq,GEvent.cells,hk,hv,dc,GStore.cells,GSeen.cells]
   repeat ((first|refine rq ?_|refine wy ?_|refine wn ?_|refine gy ?_|refine gn ?_|refine ks_StartRead w.fStore e.fId hi.store (by simp -implicitDefEqProofs only [go_sem,GStore.cells_eq];first|done|rfl) ?_|refine ks_l16Pairs w.fModel (by omega) rfl ?_|fail);simp -implicitDefEqProofs only [go_sem,wdV_eq,GEvent.cells,hk,hv,dc,GStore.cells,GSeen.cells])
   try rfl
  ·simp [seenV,wdV_eq,toDs,toD,cD,hget,GWorld.cells,GSeenS_all1]
 ·have dc:=decide_eq_false hc
  rw [if_neg hc]
  refine call_of tysZOK mixedZ Go.Proofs.Tryz.func239 (by kernel_rfl) rfl (np:=[true,false]) (by kernel_rfl) hr239 hl239 (by simp [Go.Proofs.Tryz.ntmps239]) ?_
  simp -implicitDefEqProofs only [go_sem,wdV_eq,GEvent.cells,hk]
  simp -implicitDefEqProofs only [go_sem,wdV_eq,GEvent.cells,hk,hv,dc,GStore.cells]
  repeat ((first|refine rq ?_|refine wy ?_|refine wn ?_|refine gy ?_|refine gn ?_|refine ks_StartRead w.fStore e.fId hi.store (by simp -implicitDefEqProofs only [go_sem,GStore.cells_eq];first|done|rfl) ?_|fail);simp -implicitDefEqProofs only [go_sem,wdV_eq,GEvent.cells,hk,hv,dc,GStore.cells])
  try rfl
end Go.Rx
namespace Go.Rx
open Go
attribute [local irreducible] Req Way WayG Sel callVC CallOK seqVC cVC loopVC nextK
set_option maxRecDepth 100000 in
set_option maxHeartbeats 16000000 in
theorem cs_do9 {w:GWorld} {e:GEvent} {pg:List Int} {view:Int→List GPair} (hi:WInv w pg view) (hk:e.fKind=9):DoC w e (doF w e):=by
 have hd:doF w e=setW w (packF w.fStore) id:=by unfold doF;rw [if_neg (by omega),if_neg (by omega),if_neg (by omega),if_neg (by omega),if_neg (by omega),if_neg (by omega),if_neg (by omega),if_neg (by omega),if_pos hk]
 have hs:=hi.store.small
 rw [hd]
 cases hw:w.fStore.fWriting
 ·have hpk:packF w.fStore=(w.fStore,2):=by unfold packF;rw [if_pos hw]
  rw [hpk]
  unfold setW DoC doV
  simp only
  rw [if_neg (by decide)]
  refine call_of tysZOK mixedZ Go.Proofs.Tryz.func239 (by kernel_rfl) rfl (np:=[true,false]) (by kernel_rfl) hr239 hl239 (by simp [Go.Proofs.Tryz.ntmps239]) ?_
  simp -implicitDefEqProofs only [go_sem,wdV_eq,GEvent.cells,hk]
  simp -implicitDefEqProofs only [go_sem,wdV_eq,GEvent.cells,hk,hw,GStore.cells]
  repeat ((first|refine rq ?_|refine wy ?_|refine wn ?_|refine gy ?_|refine gn ?_|fail);simp -implicitDefEqProofs only [go_sem,wdV_eq,GEvent.cells,hk,hw,GStore.cells])
  try rfl
 ·have hpk:packF w.fStore=turnF w.fStore (packT w.fStore.fTxn):=by unfold packF;rw [if_neg (by rw [hw];simp)]
  rw [hpk]
  obtain ⟨o,pgn,_,_,hx⟩:=hi.store.txn hw
  have hB:=hi.store.disk.pages_len
  cases hp:packT w.fStore.fTxn with
  |none=>
   have hv:txnV (packT w.fStore.fTxn) w.fStore.fTxn= .tup [.d (.agg w.fStore.fTxn.cells),.d (.bool false)]:=by rw [hp];rfl
   have hset:setW w (turnF w.fStore none) id=({w with fStore:= {w.fStore with fFailed:=true}},3,[]):=rfl
   rw [hset]
   unfold DoC doV
   simp only
   refine call_of tysZOK mixedZ Go.Proofs.Tryz.func239 (by kernel_rfl) rfl (np:=[true,false]) (by kernel_rfl) hr239 hl239 (by simp [Go.Proofs.Tryz.ntmps239]) ?_
   simp -implicitDefEqProofs only [go_sem,wdV_eq,GEvent.cells,hk]
   simp -implicitDefEqProofs only [go_sem,wdV_eq,GEvent.cells,hk,hw,hv,GStore.cells,GTxn.cells]
   repeat ((first|refine rq ?_|refine wy ?_|refine wn ?_|refine gy ?_|refine gn ?_|refine ks_PackTxn w.fStore.fTxn hx hB hs.base (by simp -implicitDefEqProofs only [go_sem,GTxn.cells_eq];first|done|rfl) ?_|refine ks_l12Copy w.fStore hs (by simp -implicitDefEqProofs only [go_sem,GStore.cells_eq,hw];first|done|rfl) ?_|fail);simp -implicitDefEqProofs only [go_sem,wdV_eq,GEvent.cells,hk,hw,hv,GStore.cells,GTxn.cells])
   try rfl
  |some t=>
   have hv:txnV (packT w.fStore.fTxn) w.fStore.fTxn= .tup [.d (.agg t.cells),.d (.bool true)]:=by rw [hp];rfl
   have hset:setW w (turnF w.fStore (some t)) id=({w with fStore:= {w.fStore with fTxn:=t}},0,[]):=rfl
   rw [hset]
   unfold DoC doV
   simp only
   refine call_of tysZOK mixedZ Go.Proofs.Tryz.func239 (by kernel_rfl) rfl (np:=[true,false]) (by kernel_rfl) hr239 hl239 (by simp [Go.Proofs.Tryz.ntmps239]) ?_
   simp -implicitDefEqProofs only [go_sem,wdV_eq,GEvent.cells,hk]
   simp -implicitDefEqProofs only [go_sem,wdV_eq,GEvent.cells,hk,hw,hv,GStore.cells,GTxn.cells]
   repeat ((first|refine rq ?_|refine wy ?_|refine wn ?_|refine gy ?_|refine gn ?_|refine ks_PackTxn w.fStore.fTxn hx hB hs.base (by simp -implicitDefEqProofs only [go_sem,GTxn.cells_eq];first|done|rfl) ?_|refine ks_l12Copy w.fStore hs (by simp -implicitDefEqProofs only [go_sem,GStore.cells_eq,hw];first|done|rfl) ?_|fail);simp -implicitDefEqProofs only [go_sem,wdV_eq,GEvent.cells,hk,hw,hv,GStore.cells,GTxn.cells])
   try rfl
end Go.Rx
