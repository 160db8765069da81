/-
  Part D4: lemmas on an evaluator over plain data of the model's code, plain laws on lists and numbers, or contracts of functions of the program; each lemma names its conditions.
-/
import Derived.Test.YtmeinhaecplpkaaGreatRD1
import Derived.Test.YtmeinhaecplpkaaGreatRC4
import Derived.Test.YtmeinhaecplpkaaGreatRP5

set_option linter.unusedSimpArgs false
set_option linter.unusedVariables false
namespace Go.Rx
open Go
attribute [local irreducible] Req Way WayG Sel callVC CallOK seqVC cVC loopVC nextK
@[go_sem] def hr260:Hints
 |0=> [0,1,2]|1=> [1,2,3,6]|2=> [1,2,3,6,8]|3=> [6,8]|4=> [1,2,3,6,8]|5=> [6,8]|6=> [1,2,3,6,8]|7=> [6,8,9,10]|8=> [6,8]|9=> [6,8]|10=> [6,8,9]|11=> [6,8]|_=> []
@[go_sem] def hl260:Hints:=fun _=> []
attribute [go_sem] Go.Proofs.Tryz.results260
set_option maxRecDepth 100000 in
set_option maxHeartbeats 16000000 in
theorem cs_WritePut {ps:List GPair} {pg:List Int} {next:List GPair} {view:Int→List GPair} (s:GStore) (key val:Key) (hi:StoreInv s ps pg next view):CallOK Go.Proofs.Tryz.prog 260 [.d (.agg s.cells),.d (.str key),.d (.str val)] [] [.dead,.dead,.dead] (storeV (writePutF s key val)) []:=by
 refine call_fr tysZOK mixedZ Go.Proofs.Tryz.func260 (by kernel_rfl) rfl (by kernel_rfl) hr260 hl260 (by simp [Go.Proofs.Tryz.ntmps260]) rfl ?_
 have hs:=hi.small
 unfold storeV writePutF
 cases hw:s.fWriting
 ·rw [if_pos rfl]
  simp -implicitDefEqProofs only [go_sem,hw,GStore.cells]
  repeat ((first|refine rq ?_|refine wy ?_|refine wn ?_|refine gy ?_|refine gn ?_|refine ks_l12Copy s hs (by simp -implicitDefEqProofs only [go_sem,GStore.cells_eq,hw];first|done|rfl) ?_|fail);simp -implicitDefEqProofs only [go_sem,hw,GStore.cells])
  try rfl
 ·rw [if_neg (by simp)]
  by_cases g1:24<key.length∨24<val.length
  ·rw [if_pos g1]
   by_cases g2:24<key.length
   ·have d2:decide ((24:Int)<key.length)=true:=decide_eq_true (by omega)
    simp -implicitDefEqProofs only [go_sem,hw,d2,GStore.cells]
    repeat ((first|refine rq ?_|refine wy ?_|refine wn ?_|refine gy ?_|refine gn ?_|refine ks_l12Copy s hs (by simp -implicitDefEqProofs only [go_sem,GStore.cells_eq,hw];first|done|rfl) ?_|fail);simp -implicitDefEqProofs only [go_sem,hw,d2,GStore.cells])
    try rfl
   ·have d2:decide ((24:Int)<key.length)=false:=decide_eq_false (by omega)
    have d3:decide ((24:Int)<val.length)=true:=decide_eq_true (by omega)
    simp -implicitDefEqProofs only [go_sem,hw,d2,d3,GStore.cells]
    repeat ((first|refine rq ?_|refine wy ?_|refine wn ?_|refine gy ?_|refine gn ?_|refine ks_l12Copy s hs (by simp -implicitDefEqProofs only [go_sem,GStore.cells_eq,hw];first|done|rfl) ?_|fail);simp -implicitDefEqProofs only [go_sem,hw,d2,d3,GStore.cells])
    try rfl
  ·rw [if_neg g1]
   have d2:decide ((24:Int)<key.length)=false:=decide_eq_false (by omega)
   have d3:decide ((24:Int)<val.length)=false:=decide_eq_false (by omega)
   obtain ⟨o,pgn,_,_,hx⟩:=hi.txn hw
   have hB:=hi.disk.pages_len
   cases hp:putT s.fTxn key val with
   |none=>
    have hv:txnV (putT s.fTxn key val) s.fTxn= .tup [.d (.agg s.fTxn.cells),.d (.bool false)]:=by rw [hp];rfl
    simp only [turnF]
    simp -implicitDefEqProofs only [go_sem,hw,d2,d3,hv,GStore.cells,GTxn.cells]
    repeat ((first|refine rq ?_|refine wy ?_|refine wn ?_|refine gy ?_|refine gn ?_|refine ks_l12Copy s hs (by simp -implicitDefEqProofs only [go_sem,GStore.cells_eq,hw];first|done|rfl) ?_|refine ks_TxnPut s.fTxn key val hB hs.base hx.txs (by simp -implicitDefEqProofs only [go_sem,GTxn.cells_eq];first|done|rfl) ?_|fail);simp -implicitDefEqProofs only [go_sem,hw,d2,d3,hv,GStore.cells,GTxn.cells])
    try rfl
   |some t=>
    have hv:txnV (putT s.fTxn key val) s.fTxn= .tup [.d (.agg t.cells),.d (.bool true)]:=by rw [hp];rfl
    simp only [turnF]
    simp -implicitDefEqProofs only [go_sem,hw,d2,d3,hv,GStore.cells,GTxn.cells]
    repeat ((first|refine rq ?_|refine wy ?_|refine wn ?_|refine gy ?_|refine gn ?_|refine ks_l12Copy s hs (by simp -implicitDefEqProofs only [go_sem,GStore.cells_eq,hw];first|done|rfl) ?_|refine ks_TxnPut s.fTxn key val hB hs.base hx.txs (by simp -implicitDefEqProofs only [go_sem,GTxn.cells_eq];first|done|rfl) ?_|fail);simp -implicitDefEqProofs only [go_sem,hw,d2,d3,hv,GStore.cells,GTxn.cells])
    try rfl
theorem ks_WritePut {h:Heap} {tb:Nat} {K:OK} {args:List V} {ps:List GPair} {pg:List Int} {next:List GPair} {view:Int→List GPair} (s:GStore) (key val:Key) (hi:StoreInv s ps pg next view) (hg:toDs h args=some ([.agg s.cells,.str key,.str val],[]))
  (hk:K (renV (bk tb ([])) (storeV (writePutF s key val))) (updN tb ([]) ([]))):callVC Go.Proofs.Tryz.prog h tb 260 args K:=
 call_free hg (cs_WritePut s key val hi) rfl (.inl rfl) hk
end Go.Rx
namespace Go.Rx
open Go
attribute [local irreducible] Req Way WayG Sel callVC CallOK seqVC cVC loopVC nextK
@[go_sem] def hr261:Hints
 |0=> [0,1]|1=> [1,2,4]|2=> [1,2,4,6]|3=> [4,6]|4=> [1,2,4,6]|5=> [1,2,4,6,8]|6=> [4,6]|7=> [1,2,4,6]|8=> [4,6,9,10]|9=> [4,6]|10=> [4,6]|11=> [4,6,9]|12=> [4,6]|_=> []
@[go_sem] def hl261:Hints:=fun _=> []
attribute [go_sem] Go.Proofs.Tryz.results261
set_option maxRecDepth 100000 in
set_option maxHeartbeats 16000000 in
theorem cs_WriteDrop {ps:List GPair} {pg:List Int} {next:List GPair} {view:Int→List GPair} (s:GStore) (key:Key) (hi:StoreInv s ps pg next view):CallOK Go.Proofs.Tryz.prog 261 [.d (.agg s.cells),.d (.str key)] [] [.dead,.dead] (storeV (writeDropF s key)) []:=by
 refine call_fr tysZOK mixedZ Go.Proofs.Tryz.func261 (by kernel_rfl) rfl (by kernel_rfl) hr261 hl261 (by simp [Go.Proofs.Tryz.ntmps261]) rfl ?_
 have hs:=hi.small
 unfold storeV writeDropF
 cases hw:s.fWriting
 ·rw [if_pos rfl]
  simp -implicitDefEqProofs only [go_sem,hw,GStore.cells]
  repeat ((first|refine rq ?_|refine wy ?_|refine wn ?_|refine gy ?_|refine gn ?_|refine ks_l12Copy s hs (by simp -implicitDefEqProofs only [go_sem,GStore.cells_eq,hw];first|done|rfl) ?_|fail);simp -implicitDefEqProofs only [go_sem,hw,GStore.cells])
  try rfl
 ·rw [if_neg (by simp)]
  obtain ⟨o,pgn,_,_,hx⟩:=hi.txn hw
  have hB:=hi.disk.pages_len
  have hdk:=hx.txs.ok.disk
  cases hg:getW s.fTxn.fWork.fDisk 8 s.fTxn.fRoot key with
  |none=>
   have hv:optV (getW s.fTxn.fWork.fDisk 8 s.fTxn.fRoot key)= .tup [.d (.str []),.d (.bool false)]:=by rw [hg];rfl
   simp -implicitDefEqProofs only [go_sem,hw,hv,GStore.cells]
   repeat ((first|refine rq ?_|refine wy ?_|refine wn ?_|refine gy ?_|refine gn ?_|refine ks_l12Copy s hs (by simp -implicitDefEqProofs only [go_sem,GStore.cells_eq,hw];first|done|rfl) ?_|refine ks_GetKey s.fTxn.fWork.fDisk s.fTxn.fRoot key (smallD_ok hdk).1 (smallD_ok hdk).2 (readPage_small hdk) (by simp -implicitDefEqProofs only [go_sem,GDisk.cells_eq];first|done|rfl) ?_|fail);simp -implicitDefEqProofs only [go_sem,hw,hv,GStore.cells])
   try rfl
  |some v=>
   have hv:optV (getW s.fTxn.fWork.fDisk 8 s.fTxn.fRoot key)= .tup [.d (.str v),.d (.bool true)]:=by rw [hg];rfl
   cases hp:dropT s.fTxn key with
   |none=>
    have hv2:txnV (dropT s.fTxn key) s.fTxn= .tup [.d (.agg s.fTxn.cells),.d (.bool false)]:=by rw [hp];rfl
    simp only [turnF]
    simp -implicitDefEqProofs only [go_sem,hw,hv,hv2,GStore.cells,GTxn.cells]
    repeat ((first|refine rq ?_|refine wy ?_|refine wn ?_|refine gy ?_|refine gn ?_|refine ks_l12Copy s hs (by simp -implicitDefEqProofs only [go_sem,GStore.cells_eq,hw];first|done|rfl) ?_|refine ks_GetKey s.fTxn.fWork.fDisk s.fTxn.fRoot key (smallD_ok hdk).1 (smallD_ok hdk).2 (readPage_small hdk) (by simp -implicitDefEqProofs only [go_sem,GDisk.cells_eq];first|done|rfl) ?_|refine ks_TxnDrop s.fTxn key hB hs.base hx.txs (by simp -implicitDefEqProofs only [go_sem,GTxn.cells_eq];first|done|rfl) ?_|fail);simp -implicitDefEqProofs only [go_sem,hw,hv,hv2,GStore.cells,GTxn.cells])
    try rfl
   |some t=>
    have hv2:txnV (dropT s.fTxn key) s.fTxn= .tup [.d (.agg t.cells),.d (.bool true)]:=by rw [hp];rfl
    simp only [turnF]
    simp -implicitDefEqProofs only [go_sem,hw,hv,hv2,GStore.cells,GTxn.cells]
    repeat ((first|refine rq ?_|refine wy ?_|refine wn ?_|refine gy ?_|refine gn ?_|refine ks_l12Copy s hs (by simp -implicitDefEqProofs only [go_sem,GStore.cells_eq,hw];first|done|rfl) ?_|refine ks_GetKey s.fTxn.fWork.fDisk s.fTxn.fRoot key (smallD_ok hdk).1 (smallD_ok hdk).2 (readPage_small hdk) (by simp -implicitDefEqProofs only [go_sem,GDisk.cells_eq];first|done|rfl) ?_|refine ks_TxnDrop s.fTxn key hB hs.base hx.txs (by simp -implicitDefEqProofs only [go_sem,GTxn.cells_eq];first|done|rfl) ?_|fail);simp -implicitDefEqProofs only [go_sem,hw,hv,hv2,GStore.cells,GTxn.cells])
    try rfl
theorem ks_WriteDrop {h:Heap} {tb:Nat} {K:OK} {args:List V} {ps:List GPair} {pg:List Int} {next:List GPair} {view:Int→List GPair} (s:GStore) (key:Key) (hi:StoreInv s ps pg next view) (hg:toDs h args=some ([.agg s.cells,.str key],[]))
  (hk:K (renV (bk tb ([])) (storeV (writeDropF s key))) (updN tb ([]) ([]))):callVC Go.Proofs.Tryz.prog h tb 261 args K:=
 call_free hg (cs_WriteDrop s key hi) rfl (.inl rfl) hk
end Go.Rx
