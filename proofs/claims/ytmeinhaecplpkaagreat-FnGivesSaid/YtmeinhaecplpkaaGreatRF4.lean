/-
  Part F4: lemmas on an evaluator over plain data of the model's code, plain laws on lists and numbers, or contracts of functions of the program; each lemma names its conditions.
-/
import Derived.Test.YtmeinhaecplpkaaGreatRD6
import Derived.Test.YtmeinhaecplpkaaGreatRC5
import Derived.Test.YtmeinhaecplpkaaGreatRC3
import Derived.Test.YtmeinhaecplpkaaGreatRA4
import Derived.Test.YtmeinhaecplpkaaGreatRF3
import Derived.Test.YtmeinhaecplpkaaGreatRD3

set_option linter.unusedSimpArgs false
set_option linter.unusedVariables false
namespace Go.Rx
open Go
attribute [local irreducible] Req Way WayG Sel callVC CallOK seqVC cVC loopVC nextK
def fallV (w:GWorld):List V:=(wdV w).take 21++ .own 1 0 0:: .own 2 0 0::(wdV w).drop 23
theorem fall_freeze {P:Program} {f:FuncId} {args:List V} {H:List (Nat×AObj)} {w:GWorld} (hc:CallOK P f args H [.ref 0 0,.dead] (.tup []) [(0,.box (fallV w)),(1,.arr 2 []),(2,.arr 2 [])]) (h1:w.fNext=[]) (h2:w.fSeens=[]):
  CallOK P f args H [.ref 0 0,.dead] (.tup []) [(0,.box (wdV w))]:=
 freeze_box (ls:=[1,2]) (ls':=[]) (ds:=GWorld.cells w) hc rfl (by simp [fallV,wdV_eq,toDs,toD,cD,hget,GWorld.cells,h1,h2,GPairS,GSeenS]) rfl (by simp) rfl
set_option maxRecDepth 100000 in
set_option maxHeartbeats 16000000 in
theorem cs_l16Fall {w:GWorld} {e:GEvent} {pg:List Int} {view:Int→List GPair} (hi:WInv w pg view) (hl:e.fLeft.length≤1048576):
  CallOK Go.Proofs.Tryz.prog 269 [.ref 0 0,.d (.agg e.cells)] [(0,.box (wdV w))] [.ref 0 0,.dead] (.tup []) [(0,.box (wdV (fallW w e)))]:=by
 have hs:=hi.store.small
 have key:∃m ps pg',DiskInv (if w.fStore.fWriting=true then cutD w.fStore.fTxn e.fStage e.fLeft e.fTorn else fallD w.fStore.fDisk e.fLeft e.fTorn) m ps pg':=by
  by_cases hw:w.fStore.fWriting=true
  ·rw [if_pos hw]
   obtain ⟨o,pgn,g1,g2,g3⟩:=hi.store.txn hw
   rcases (cut_inv (stage:=e.fStage) (left:=e.fLeft) (torn:=e.fTorn) hi.store.disk g3).2 with h4|⟨_,_,h4⟩
   ·exact ⟨_,_,_,h4⟩
   ·exact ⟨_,_,_,h4⟩
  ·rw [if_neg hw];exact ⟨_,_,_,fall_inv hi.store.disk⟩
 unfold fallW
 obtain ⟨m,ps,pg',hd⟩:=key
 have hsd:=smallD_ok hd.disk
 have hrp:=readPage_small hd.disk
 cases hw:w.fStore.fWriting
 ·rw [hw] at hd hsd hrp
  simp only [Bool.false_eq_true,if_false] at hd hsd hrp ⊢
  have hov:openV (fallD w.fStore.fDisk e.fLeft e.fTorn)= .tup [.d (.agg (openS (fallD w.fStore.fDisk e.fLeft e.fTorn) m).cells),.d (.bool true)]:=by rw [openV,openF_at hd];rfl
  have hpv:pairsV (allPairs (fallD w.fStore.fDisk e.fLeft e.fTorn) m.fRoot)= .tup [.d (.sl (GPairS ps)),.d (.bool true)]:=by rw [allPairs_at hd.tree];rfl
  have hal:allS (openS (fallD w.fStore.fDisk e.fLeft e.fTorn) m).fDisk (openS (fallD w.fStore.fDisk e.fLeft e.fTorn) m).fMeta.fRoot=ps:=allS_at hd.tree
  rw [openF_at hd,Option.getD_some,hal]
  refine fall_freeze ?_ rfl rfl
  unfold fallV
  refine call_of tysZOK mixedZ Go.Proofs.Tryz.func269 (by kernel_rfl) rfl (np:=[true,false]) (by kernel_rfl) hr269 hl269 (by simp [Go.Proofs.Tryz.ntmps269]) ?_
  simp -implicitDefEqProofs only [go_sem,wdV_eq,GEvent.cells]
  simp -implicitDefEqProofs only [go_sem,wdV_eq,GEvent.cells,hw,hov,hpv,openS,GStore.cells,GTxn.zero,GMeta.zero,GWork.zero,GDisk.zero,GDisk.cells]
  repeat ((first|refine rq ?_|refine wy ?_|refine wn ?_|refine gy ?_|refine gn ?_|refine ks_FallDisk w.fStore.fDisk hi.store.disk.disk e.fLeft hl e.fTorn (by simp -implicitDefEqProofs only [go_sem,GDisk.cells_eq];first|done|rfl) ?_|refine ks_Open (fallD w.fStore.fDisk e.fLeft e.fTorn) hsd.1 hsd.2 hrp (by simp -implicitDefEqProofs only [go_sem,GDisk.cells_eq];first|done|rfl) ?_|refine ks_AllPairs (fallD w.fStore.fDisk e.fLeft e.fTorn) m.fRoot hsd.1 hsd.2 hrp (by simp -implicitDefEqProofs only [go_sem,GDisk.cells_eq];first|done|rfl) ?_|fail);simp -implicitDefEqProofs only [go_sem,wdV_eq,GEvent.cells,hw,hov,hpv,openS,GStore.cells,GTxn.zero,GMeta.zero,GWork.zero,GDisk.zero,GDisk.cells])
  try rfl
 ·rw [hw] at hd hsd hrp
  simp only [if_true] at hd hsd hrp ⊢
  obtain ⟨o,pgn,_,_,hx⟩:=hi.store.txn hw
  obtain ⟨b1,b3,b4⟩:=txn_bounds hi.store.disk hx
  have hov:openV (cutD w.fStore.fTxn e.fStage e.fLeft e.fTorn)= .tup [.d (.agg (openS (cutD w.fStore.fTxn e.fStage e.fLeft e.fTorn) m).cells),.d (.bool true)]:=by rw [openV,openF_at hd];rfl
  have hpv:pairsV (allPairs (cutD w.fStore.fTxn e.fStage e.fLeft e.fTorn) m.fRoot)= .tup [.d (.sl (GPairS ps)),.d (.bool true)]:=by rw [allPairs_at hd.tree];rfl
  have hal:allS (openS (cutD w.fStore.fTxn e.fStage e.fLeft e.fTorn) m).fDisk (openS (cutD w.fStore.fTxn e.fStage e.fLeft e.fTorn) m).fMeta.fRoot=ps:=allS_at hd.tree
  rw [openF_at hd,Option.getD_some,hal]
  refine fall_freeze ?_ rfl rfl
  unfold fallV
  refine call_of tysZOK mixedZ Go.Proofs.Tryz.func269 (by kernel_rfl) rfl (np:=[true,false]) (by kernel_rfl) hr269 hl269 (by simp [Go.Proofs.Tryz.ntmps269]) ?_
  simp -implicitDefEqProofs only [go_sem,wdV_eq,GEvent.cells]
  simp -implicitDefEqProofs only [go_sem,wdV_eq,GEvent.cells,hw,hov,hpv,openS,GStore.cells,GTxn.zero,GMeta.zero,GWork.zero,GDisk.zero,GDisk.cells]
  repeat ((first|refine rq ?_|refine wy ?_|refine wn ?_|refine gy ?_|refine gn ?_|refine ks_CommitCut w.fStore.fTxn e.fStage e.fLeft e.fTorn b1 hs.work b3 b4 hx.txs.ok.disk hl (by simp -implicitDefEqProofs only [go_sem,GTxn.cells_eq];first|done|rfl) ?_|refine ks_Open (cutD w.fStore.fTxn e.fStage e.fLeft e.fTorn) hsd.1 hsd.2 hrp (by simp -implicitDefEqProofs only [go_sem,GDisk.cells_eq];first|done|rfl) ?_|refine ks_AllPairs (cutD w.fStore.fTxn e.fStage e.fLeft e.fTorn) m.fRoot hsd.1 hsd.2 hrp (by simp -implicitDefEqProofs only [go_sem,GDisk.cells_eq];first|done|rfl) ?_|fail);simp -implicitDefEqProofs only [go_sem,wdV_eq,GEvent.cells,hw,hov,hpv,openS,GStore.cells,GTxn.zero,GMeta.zero,GWork.zero,GDisk.zero,GDisk.cells])
  try rfl
end Go.Rx
namespace Go.Rx
open Go
attribute [local irreducible] Req Way WayG Sel callVC CallOK seqVC cVC loopVC nextK
def seenSt (w:GWorld) (id:Int) (i:Nat):List GSeen:=(w.fSeens.take i).filter fun s=> !decide (s.fId=id)
theorem seenSt_snoc {w:GWorld} {id:Int} {i:Nat} {p:GSeen} (h:w.fSeens[i]? =some p):seenSt w id (i+1)=seenSt w id i++(if p.fId=id then [] else [p]):=by
 unfold seenSt
 rw [take_snoc h,List.filter_append]
 by_cases e:p.fId=id<;>simp [e]
theorem seenSt_len {w:GWorld} {id:Int} {i:Nat}:(seenSt w id i).length≤min i w.fSeens.length:=by
 have:=List.length_filter_le (fun s:GSeen=> !decide (s.fId=id)) (w.fSeens.take i)
 simpa [seenSt] using this
set_option maxRecDepth 100000 in
set_option maxHeartbeats 16000000 in
theorem cs_do8 {w:GWorld} {e:GEvent} {pg:List Int} {view:Int→List GPair} (hi:WInv w pg view) (hk:e.fKind=8):DoC w e (doF w e):=by
 have hd:doF w e=({w with fStore:=(endReadF w.fStore e.fId).1,fSeens:=w.fSeens.filter fun s=> !decide (s.fId=e.fId)},(endReadF w.fStore e.fId).2,[]):=by unfold doF;rw [if_neg (by omega),if_neg (by omega),if_neg (by omega),if_neg (by omega),if_neg (by omega),if_neg (by omega),if_neg (by omega),if_pos hk]
 have hsf:=hi.seens_few
 rcases hr:endReadF w.fStore e.fId with ⟨s',c⟩
 have hv:storeV (endReadF w.fStore e.fId)= .tup [.d (.agg s'.cells),.d (.int .i64 c)]:=by rw [hr];rfl
 rw [hd,hr]
 unfold DoC doV
 simp only
 refine freeze_box (H':=[(0,.box (seenV {w with fStore:=s'} (w.fSeens.filter fun s=> !decide (s.fId=e.fId)).length)),(1,.arr 2 (GSeenS (w.fSeens.filter fun s=> !decide (s.fId=e.fId))))]) (res:= .tup [.d (.int .i64 c),.d (.str [])]) (ls:=[1]) (ls':=[]) (ds:=GWorld.cells {w with fStore:=s',fSeens:=w.fSeens.filter fun s=> !decide (s.fId=e.fId)}) ?_ rfl ?_ rfl (by simp) rfl
 ·unfold seenV
  refine call_of tysZOK mixedZ Go.Proofs.Tryz.func239 (by kernel_rfl) rfl (np:=[true,false]) (by kernel_rfl) hr239 hl239 (by simp [Go.Proofs.Tryz.ntmps239]) ?_
  simp -implicitDefEqProofs only [go_sem,wdV_eq,GEvent.cells,hk]
  simp -implicitDefEqProofs only [go_sem,wdV_eq,GEvent.cells,hk,hv,GStore.cells]
  repeat ((first|refine rq ?_|refine wy ?_|refine wn ?_|refine gy ?_|refine gn ?_|refine ks_EndRead w.fStore e.fId hi.store (by simp -implicitDefEqProofs only [go_sem,GStore.cells_eq];first|done|rfl) ?_|fail);simp -implicitDefEqProofs only [go_sem,wdV_eq,GEvent.cells,hk,hv,GStore.cells])
  refine loop_data (α:=Nat) (fun i=>⟨[(0,.ref 0 0),(3,.ref 1 0),(7,.d (.int .i64 c)),(10,.own 2 0 (seenSt w e.fId i).length),(11,.d (.int .i64 i))],[(0,some (.box [.d (.sl (strs s'.fDisk.fPages)),.d (.sl (GPutS s'.fDisk.fLate)),.d (.int .i64 s'.fMeta.fTx),.d (.int .i64 s'.fMeta.fRoot),.d (.int .i64 s'.fMeta.fNext),.d (.sl (GFreeS s'.fMeta.fFrees)),.d (.sl (GReaderS s'.fReaders)),.d (.int .i64 s'.fTxn.fBase.fTx),.d (.int .i64 s'.fTxn.fBase.fRoot),.d (.int .i64 s'.fTxn.fBase.fNext),.d (.sl (GFreeS s'.fTxn.fBase.fFrees)),.d (.sl (strs s'.fTxn.fWork.fDisk.fPages)),.d (.sl (GPutS s'.fTxn.fWork.fDisk.fLate)),.d (.int .i64 s'.fTxn.fWork.fNext),.d (.sl (ints s'.fTxn.fWork.fUsable)),.d (.sl (ints s'.fTxn.fWork.fGone)),.d (.sl (ints s'.fTxn.fWork.fFresh)),.d (.int .i64 s'.fTxn.fRoot),.d (.bool s'.fWriting),.d (.bool s'.fFailed),.d (.sl (GPairS w.fModel)),.d (.sl (GPairS w.fNext)),.d (.sl (GSeenS w.fSeens)),.d (.sl (ints w.fCodes)),.d (.sl (strs w.fTold))])),(1,some (.box [.d (.int .i64 8),.d (.int .i64 e.fId),.d (.str e.fKey),.d (.str e.fVal),.d (.int .i64 e.fStage),.d (.sl (bls e.fLeft)),.d (.int .i64 e.fTorn)])),(2,some (.arr 2 (GSeenS (seenSt w e.fId i))))]⟩)
   (fun i=>i≤w.fSeens.length) (fun i=>w.fSeens.length - i) 0 rfl (Nat.zero_le _) ?_
  rintro i i1
  have hsl:= @seenSt_len w e.fId i
  have hi1:IntKind.i64.wrap ((i:Int)+1)=((i+1:Nat):Int):=wrap_succ (by simp only [LEN];omega)
  simp -implicitDefEqProofs only [go_sem]
  (first|(refine way_dec (fun h5=>?_) (fun h5=>?_))|(refine way_ndec (fun h5=>?_) (fun h5=>?_))|(refine wayT_dec (fun h5=>?_) (fun h5=>?_))|(refine wayF_dec (fun h5=>?_) (fun h5=>?_))|(refine wayT_ndec (fun h5=>?_) (fun h5=>?_))|(refine wayF_ndec (fun h5=>?_) (fun h5=>?_))|(refine way_not (fun h5=>?_) (fun h5=>?_))|(refine way (fun h5=>?_) (fun h5=>?_))|(refine wayT (fun h5=>?_) (fun h5=>?_))|(refine wayF (fun h5=>?_) (fun h5=>?_)))
  ·obtain ⟨p,hp⟩:=some_at h5
   have hst:=seenSt_snoc (id:=e.fId) hp
   by_cases hx:p.fId=e.fId
   ·have dx:=decide_eq_true hx
    rw [if_pos hx,List.append_nil] at hst
    simp -implicitDefEqProofs only [go_sem,lget_GSeenS hp,dx]
    repeat ((first|refine rq ?_|refine wy ?_|refine wn ?_|refine gy ?_|refine gn ?_|fail);simp -implicitDefEqProofs only [go_sem,lget_GSeenS hp,dx])
    rw [hi1,←hst]
    exact next_data (i+1) rfl (by omega) (by omega)
   ·have dx:=decide_eq_false hx
    rw [if_neg hx] at hst
    simp -implicitDefEqProofs only [go_sem,lget_GSeenS hp,dx]
    repeat ((first|refine rq ?_|refine wy ?_|refine wn ?_|refine gy ?_|refine gn ?_|fail);simp -implicitDefEqProofs only [go_sem,lget_GSeenS hp,dx])
    rw [hi1]
    refine next_data (i+1) ?_ (by omega) (by omega)
    simp [hst,GSeenS,GSeen.cells]
  ·have hall:seenSt w e.fId i=w.fSeens.filter fun s=> !decide (s.fId=e.fId):=by rw [seenSt,List.take_of_length_le (by omega)]
   rw [hall]
   simp -implicitDefEqProofs only [go_sem,wdV_eq]
   repeat ((first|refine rq ?_|refine wy ?_|refine wn ?_|refine gy ?_|refine gn ?_|fail);simp -implicitDefEqProofs only [go_sem,wdV_eq])
   try rfl
 ·simp [seenV,wdV_eq,toDs,toD,cD,hget,GWorld.cells,GSeenS_all]
end Go.Rx
