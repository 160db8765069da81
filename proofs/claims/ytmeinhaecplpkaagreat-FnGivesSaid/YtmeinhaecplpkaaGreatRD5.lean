/-
  Part D5: lemmas on an evaluator over plain data of the model's code, plain laws on lists and numbers, or contracts of functions of the program; each lemma names its conditions.
-/
import Derived.Test.YtmeinhaecplpkaaGreatRD1
import Derived.Test.YtmeinhaecplpkaaGreatRP5
import Derived.Test.YtmeinhaecplpkaaGreatRC5

set_option linter.unusedSimpArgs false
set_option linter.unusedVariables false
namespace Go.Rx
open Go
attribute [local irreducible] Req Way WayG Sel callVC CallOK seqVC cVC loopVC nextK
@[go_sem] def hr274:Hints
 |0=> [0,1,2]|1=> [3,4,5,6]|2=> [4,5,6,7]|3=> [5,6,7]|4=> [6,7]|5=> [6,7]|6=> [6,7]|7=> [6,7]|_=> []
@[go_sem] def hl274:Hints:=fun _=> []
attribute [go_sem] Go.Proofs.Tryz.results274
set_option maxRecDepth 100000 in
set_option maxHeartbeats 16000000 in
theorem cs_l12Rest (s:GStore) (d:GDisk) (m:GMeta) (hs:SmallS s):CallOK Go.Proofs.Tryz.prog 274 [.d (.agg s.cells),.d (.agg d.cells),.d (.agg m.cells)] [] [.dead,.dead,.dead] (.d (.agg (restS s d m).cells)) []:=by
 refine call_fr tysZOK mixedZ Go.Proofs.Tryz.func274 (by kernel_rfl) rfl (by kernel_rfl) hr274 hl274 (by simp [Go.Proofs.Tryz.ntmps274]) rfl ?_
 simp -implicitDefEqProofs only [go_sem,GStore.cells,GDisk.cells,GMeta.cells]
 repeat ((first|refine rq ?_|refine wy ?_|refine wn ?_|refine gy ?_|refine gn ?_|refine ks_l12Copy s hs (by simp -implicitDefEqProofs only [go_sem,GStore.cells_eq];first|done|rfl) ?_|fail);simp -implicitDefEqProofs only [go_sem,GStore.cells,GDisk.cells,GMeta.cells])
 try rfl
theorem ks_l12Rest {h:Heap} {tb:Nat} {K:OK} {args:List V} (s:GStore) (d:GDisk) (m:GMeta) (hs:SmallS s) (hg:toDs h args=some ([.agg s.cells,.agg d.cells,.agg m.cells],[]))
  (hk:K (renV (bk tb ([])) (.d (.agg (restS s d m).cells))) (updN tb ([]) ([]))):callVC Go.Proofs.Tryz.prog h tb 274 args K:=
 call_free hg (cs_l12Rest s d m hs) rfl (.inl rfl) hk
@[go_sem] def hr263:Hints
 |0=> [0]|1=> [1,2]|2=> [1,2]|3=> [1,2]|_=> []
@[go_sem] def hl263:Hints:=fun _=> []
attribute [go_sem] Go.Proofs.Tryz.results263
set_option maxRecDepth 100000 in
set_option maxHeartbeats 16000000 in
theorem cs_StopWrite {ps:List GPair} {pg:List Int} {next:List GPair} {view:Int→List GPair} (s:GStore) (hi:StoreInv s ps pg next view):CallOK Go.Proofs.Tryz.prog 263 [.d (.agg s.cells)] [] [.dead] (storeV (stopWriteF s)) []:=by
 refine call_fr tysZOK mixedZ Go.Proofs.Tryz.func263 (by kernel_rfl) rfl (by kernel_rfl) hr263 hl263 (by simp [Go.Proofs.Tryz.ntmps263]) rfl ?_
 have hs:=hi.small
 unfold storeV stopWriteF
 cases hw:s.fWriting
 ·rw [if_pos rfl]
  simp -implicitDefEqProofs only [go_sem,hw,GStore.cells]
  repeat ((first|refine rq ?_|refine wy ?_|refine wn ?_|refine gy ?_|refine gn ?_|refine ks_l12Copy s hs (by simp -implicitDefEqProofs only [go_sem,GStore.cells_eq,hw];first|done|rfl) ?_|fail);simp -implicitDefEqProofs only [go_sem,hw,GStore.cells])
  try rfl
 ·rw [if_neg (by simp)]
  simp -implicitDefEqProofs only [go_sem,hw,GStore.cells,GDisk.cells,GMeta.cells]
  repeat ((first|refine rq ?_|refine wy ?_|refine wn ?_|refine gy ?_|refine gn ?_|refine ks_SyncDisk s.fTxn.fWork.fDisk hs.work.1 (by simp -implicitDefEqProofs only [go_sem,GDisk.cells_eq];first|done|rfl) ?_|refine ks_l06Copy s.fMeta (smallGMeta_ok hs.mt) (by simp -implicitDefEqProofs only [go_sem,GMeta.cells_eq];first|done|rfl) ?_|refine ks_l12Rest s (syncD s.fTxn.fWork.fDisk) s.fMeta hs (by simp -implicitDefEqProofs only [go_sem,GStore.cells_eq,GDisk.cells_eq,GMeta.cells_eq,hw];first|done|rfl) ?_|fail);simp -implicitDefEqProofs only [go_sem,hw,GStore.cells,GDisk.cells,GMeta.cells])
  try rfl
theorem ks_StopWrite {h:Heap} {tb:Nat} {K:OK} {args:List V} {ps:List GPair} {pg:List Int} {next:List GPair} {view:Int→List GPair} (s:GStore) (hi:StoreInv s ps pg next view) (hg:toDs h args=some ([.agg s.cells],[]))
  (hk:K (renV (bk tb ([])) (storeV (stopWriteF s))) (updN tb ([]) ([]))):callVC Go.Proofs.Tryz.prog h tb 263 args K:=
 call_free hg (cs_StopWrite s hi) rfl (.inl rfl) hk
end Go.Rx
namespace Go.Rx
open Go
attribute [local irreducible] Req Way WayG Sel callVC CallOK seqVC cVC loopVC nextK
@[go_sem] def hr262:Hints
 |0=> [0]|1=> [1,2]|2=> [1,2]|3=> [1,2]|4=> [1,2,4,5,6]|5=> [1,2]|6=> [2,7]|7=> [1,2,4,5]|_=> []
@[go_sem] def hl262:Hints:=fun _=> []
attribute [go_sem] Go.Proofs.Tryz.results262
set_option maxRecDepth 100000 in
set_option maxHeartbeats 16000000 in
theorem cs_EndWrite {ps:List GPair} {pg:List Int} {next:List GPair} {view:Int→List GPair} (s:GStore) (hi:StoreInv s ps pg next view):CallOK Go.Proofs.Tryz.prog 262 [.d (.agg s.cells)] [] [.dead] (storeV (endWriteF s)) []:=by
 refine call_fr tysZOK mixedZ Go.Proofs.Tryz.func262 (by kernel_rfl) rfl (by kernel_rfl) hr262 hl262 (by simp [Go.Proofs.Tryz.ntmps262]) rfl ?_
 have hs:=hi.small
 unfold storeV endWriteF
 cases hw:s.fWriting
 ·rw [if_pos rfl]
  simp -implicitDefEqProofs only [go_sem,hw,GStore.cells]
  repeat ((first|refine rq ?_|refine wy ?_|refine wn ?_|refine gy ?_|refine gn ?_|refine ks_l12Copy s hs (by simp -implicitDefEqProofs only [go_sem,GStore.cells_eq,hw];first|done|rfl) ?_|fail);simp -implicitDefEqProofs only [go_sem,hw,GStore.cells])
  try rfl
 ·rw [if_neg (by simp)]
  obtain ⟨o,pgn,_,_,hx⟩:=hi.txn hw
  obtain ⟨b1,b3,b4⟩:=txn_bounds hi.disk hx
  have hst:storeV (stopWriteF s)= .tup [.d (.agg (stopWriteF s).1.cells),.d (.int .i64 (stopWriteF s).2)]:=rfl
  cases hc:commitT s.fTxn with
  |none=>
   have hv:commitV s.fTxn= .tup [.d (.agg s.fTxn.fWork.fDisk.cells),.d (.agg s.fTxn.fBase.cells),.d (.bool false)]:=by rw [commitV,hc]
   cases hf:s.fFailed<;>simp only
   ·simp -implicitDefEqProofs only [go_sem,hw,hf,hv,hst,GDisk.cells,GMeta.cells,GStore.cells]
    repeat ((first|refine rq ?_|refine wy ?_|refine wn ?_|refine gy ?_|refine gn ?_|refine ks_Commit s.fTxn b1 hs.work b3 b4 (by simp -implicitDefEqProofs only [go_sem,GTxn.cells_eq];first|done|rfl) ?_|refine ks_StopWrite s hi (by simp -implicitDefEqProofs only [go_sem,GStore.cells_eq,hw,hf];first|done|rfl) ?_|fail);simp -implicitDefEqProofs only [go_sem,hw,hf,hv,hst,GDisk.cells,GMeta.cells,GStore.cells])
    try rfl
   ·simp -implicitDefEqProofs only [go_sem,hw,hf,hv,hst,GDisk.cells,GMeta.cells,GStore.cells]
    repeat ((first|refine rq ?_|refine wy ?_|refine wn ?_|refine gy ?_|refine gn ?_|refine ks_Commit s.fTxn b1 hs.work b3 b4 (by simp -implicitDefEqProofs only [go_sem,GTxn.cells_eq];first|done|rfl) ?_|refine ks_StopWrite s hi (by simp -implicitDefEqProofs only [go_sem,GStore.cells_eq,hw,hf];first|done|rfl) ?_|fail);simp -implicitDefEqProofs only [go_sem,hw,hf,hv,hst,GDisk.cells,GMeta.cells,GStore.cells])
    try rfl
  |some r=>
   obtain ⟨d,m⟩:=r
   have hv:commitV s.fTxn= .tup [.d (.agg d.cells),.d (.agg m.cells),.d (.bool true)]:=by rw [commitV,hc]
   cases hf:s.fFailed
   ·simp only [Bool.false_eq_true,if_false]
    simp -implicitDefEqProofs only [go_sem,hw,hf,hv,GDisk.cells,GMeta.cells,GStore.cells]
    repeat ((first|refine rq ?_|refine wy ?_|refine wn ?_|refine gy ?_|refine gn ?_|refine ks_Commit s.fTxn b1 hs.work b3 b4 (by simp -implicitDefEqProofs only [go_sem,GTxn.cells_eq];first|done|rfl) ?_|refine ks_l12Rest s d m hs (by simp -implicitDefEqProofs only [go_sem,GStore.cells_eq,GDisk.cells_eq,GMeta.cells_eq,hw,hf];first|done|rfl) ?_|fail);simp -implicitDefEqProofs only [go_sem,hw,hf,hv,GDisk.cells,GMeta.cells,GStore.cells])
    try rfl
   ·simp only [if_true]
    simp -implicitDefEqProofs only [go_sem,hw,hf,hv,hst,GDisk.cells,GMeta.cells,GStore.cells]
    repeat ((first|refine rq ?_|refine wy ?_|refine wn ?_|refine gy ?_|refine gn ?_|refine ks_Commit s.fTxn b1 hs.work b3 b4 (by simp -implicitDefEqProofs only [go_sem,GTxn.cells_eq];first|done|rfl) ?_|refine ks_StopWrite s hi (by simp -implicitDefEqProofs only [go_sem,GStore.cells_eq,hw,hf];first|done|rfl) ?_|fail);simp -implicitDefEqProofs only [go_sem,hw,hf,hv,hst,GDisk.cells,GMeta.cells,GStore.cells])
    try rfl
theorem ks_EndWrite {h:Heap} {tb:Nat} {K:OK} {args:List V} {ps:List GPair} {pg:List Int} {next:List GPair} {view:Int→List GPair} (s:GStore) (hi:StoreInv s ps pg next view) (hg:toDs h args=some ([.agg s.cells],[]))
  (hk:K (renV (bk tb ([])) (storeV (endWriteF s))) (updN tb ([]) ([]))):callVC Go.Proofs.Tryz.prog h tb 262 args K:=
 call_free hg (cs_EndWrite s hi) rfl (.inl rfl) hk
end Go.Rx
