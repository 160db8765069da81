/-
  Part F1: lemmas on an evaluator over plain data of the model's code, plain laws on lists and numbers, or contracts of functions of the program; each lemma names its conditions.
-/
import Derived.Test.YtmeinhaecplpkaaGreatRD6
import Derived.Test.YtmeinhaecplpkaaGreatRD3
import Derived.Test.YtmeinhaecplpkaaGreatRD4

set_option linter.unusedSimpArgs false
set_option linter.unusedVariables false
namespace Go.Rx
open Go
attribute [local irreducible] Req Way WayG Sel callVC CallOK seqVC cVC loopVC nextK
set_option maxRecDepth 100000 in
set_option maxHeartbeats 16000000 in
theorem cs_do1 {w:GWorld} {e:GEvent} {pg:List Int} {view:Int→List GPair} (hi:WInv w pg view) (hk:e.fKind=1):DoC w e (doF w e):=by
 have hd:doF w e=setW w (startWriteF w.fStore) fun w=> {w with fNext:=w.fModel}:=by unfold doF;rw [if_pos hk]
 have hml:=hi.model_len
 have hnl:=hi.next
 rcases hr:startWriteF w.fStore with ⟨s',c⟩
 have hv:storeV (startWriteF w.fStore)= .tup [.d (.agg s'.cells),.d (.int .i64 c)]:=by rw [hr];rfl
 rw [hd,hr]
 unfold setW DoC doV
 simp only
 by_cases hc:c=0
 ·have dc:=decide_eq_true hc
  rw [if_pos hc]
  refine call_of tysZOK mixedZ Go.Proofs.Tryz.func239 (by kernel_rfl) rfl (np:=[true,false]) (by kernel_rfl) hr239 hl239 (by simp [Go.Proofs.Tryz.ntmps239]) ?_
  simp -implicitDefEqProofs only [go_sem,wdV_eq,GEvent.cells,hk]
  simp -implicitDefEqProofs only [go_sem,wdV_eq,GEvent.cells,hk,hv,dc,GStore.cells]
  repeat ((first|refine rq ?_|refine wy ?_|refine wn ?_|refine gy ?_|refine gn ?_|refine ks_StartWrite w.fStore hi.store (by simp -implicitDefEqProofs only [go_sem,GStore.cells_eq];first|done|rfl) ?_|refine ks_l16Pairs w.fModel (by omega) rfl ?_|fail);simp -implicitDefEqProofs only [go_sem,wdV_eq,GEvent.cells,hk,hv,dc,GStore.cells])
  try rfl
 ·have dc:=decide_eq_false hc
  rw [if_neg hc]
  refine call_of tysZOK mixedZ Go.Proofs.Tryz.func239 (by kernel_rfl) rfl (np:=[true,false]) (by kernel_rfl) hr239 hl239 (by simp [Go.Proofs.Tryz.ntmps239]) ?_
  simp -implicitDefEqProofs only [go_sem,wdV_eq,GEvent.cells,hk]
  simp -implicitDefEqProofs only [go_sem,wdV_eq,GEvent.cells,hk,hv,dc,GStore.cells]
  repeat ((first|refine rq ?_|refine wy ?_|refine wn ?_|refine gy ?_|refine gn ?_|refine ks_StartWrite w.fStore hi.store (by simp -implicitDefEqProofs only [go_sem,GStore.cells_eq];first|done|rfl) ?_|refine ks_l16Pairs w.fModel (by omega) rfl ?_|fail);simp -implicitDefEqProofs only [go_sem,wdV_eq,GEvent.cells,hk,hv,dc,GStore.cells])
  try rfl
set_option maxRecDepth 100000 in
set_option maxHeartbeats 16000000 in
theorem cs_do2 {w:GWorld} {e:GEvent} {pg:List Int} {view:Int→List GPair} (hi:WInv w pg view) (hk:e.fKind=2):DoC w e (doF w e):=by
 have hd:doF w e=setW w (writePutF w.fStore e.fKey e.fVal) fun w=> {w with fNext:=mput w.fNext e.fKey e.fVal}:=by unfold doF;rw [if_neg (by omega),if_pos hk]
 have hml:=hi.model_len
 have hnl:=hi.next
 rcases hr:writePutF w.fStore e.fKey e.fVal with ⟨s',c⟩
 have hv:storeV (writePutF w.fStore e.fKey e.fVal)= .tup [.d (.agg s'.cells),.d (.int .i64 c)]:=by rw [hr];rfl
 rw [hd,hr]
 unfold setW DoC doV
 simp only
 by_cases hc:c=0
 ·have dc:=decide_eq_true hc
  rw [if_pos hc]
  refine call_of tysZOK mixedZ Go.Proofs.Tryz.func239 (by kernel_rfl) rfl (np:=[true,false]) (by kernel_rfl) hr239 hl239 (by simp [Go.Proofs.Tryz.ntmps239]) ?_
  simp -implicitDefEqProofs only [go_sem,wdV_eq,GEvent.cells,hk]
  simp -implicitDefEqProofs only [go_sem,wdV_eq,GEvent.cells,hk,hv,dc,GStore.cells]
  repeat ((first|refine rq ?_|refine wy ?_|refine wn ?_|refine gy ?_|refine gn ?_|refine ks_WritePut w.fStore e.fKey e.fVal hi.store (by simp -implicitDefEqProofs only [go_sem,GStore.cells_eq];first|done|rfl) ?_|refine kdata (xs:=[.sl (GPairS w.fNext),.str e.fKey,.str e.fVal]) (cs_ModelPutF w.fNext e.fKey e.fVal (by omega)) rfl rfl ?_|fail);simp -implicitDefEqProofs only [go_sem,wdV_eq,GEvent.cells,hk,hv,dc,GStore.cells])
  try rfl
 ·have dc:=decide_eq_false hc
  rw [if_neg hc]
  refine call_of tysZOK mixedZ Go.Proofs.Tryz.func239 (by kernel_rfl) rfl (np:=[true,false]) (by kernel_rfl) hr239 hl239 (by simp [Go.Proofs.Tryz.ntmps239]) ?_
  simp -implicitDefEqProofs only [go_sem,wdV_eq,GEvent.cells,hk]
  simp -implicitDefEqProofs only [go_sem,wdV_eq,GEvent.cells,hk,hv,dc,GStore.cells]
  repeat ((first|refine rq ?_|refine wy ?_|refine wn ?_|refine gy ?_|refine gn ?_|refine ks_WritePut w.fStore e.fKey e.fVal hi.store (by simp -implicitDefEqProofs only [go_sem,GStore.cells_eq];first|done|rfl) ?_|refine kdata (xs:=[.sl (GPairS w.fNext),.str e.fKey,.str e.fVal]) (cs_ModelPutF w.fNext e.fKey e.fVal (by omega)) rfl rfl ?_|fail);simp -implicitDefEqProofs only [go_sem,wdV_eq,GEvent.cells,hk,hv,dc,GStore.cells])
  try rfl
end Go.Rx
namespace Go.Rx
open Go
attribute [local irreducible] Req Way WayG Sel callVC CallOK seqVC cVC loopVC nextK
set_option maxRecDepth 100000 in
set_option maxHeartbeats 16000000 in
theorem cs_do7 {w:GWorld} {e:GEvent} {pg:List Int} {view:Int→List GPair} (hi:WInv w pg view) (hk:e.fKind=7):DoC w e (doF w e):=by
 have hd:doF w e=(w,(readerGetF w.fStore e.fId e.fKey).2,(readerGetF w.fStore e.fId e.fKey).1):=by unfold doF;rw [if_neg (by omega),if_neg (by omega),if_neg (by omega),if_neg (by omega),if_neg (by omega),if_neg (by omega),if_pos hk]
 rw [hd]
 unfold DoC doV
 simp only
 refine call_of tysZOK mixedZ Go.Proofs.Tryz.func239 (by kernel_rfl) rfl (np:=[true,false]) (by kernel_rfl) hr239 hl239 (by simp [Go.Proofs.Tryz.ntmps239]) ?_
 simp -implicitDefEqProofs only [go_sem,wdV_eq,GEvent.cells,hk]
 simp -implicitDefEqProofs only [go_sem,wdV_eq,GEvent.cells,hk,GStore.cells]
 repeat ((first|refine rq ?_|refine wy ?_|refine wn ?_|refine gy ?_|refine gn ?_|refine ks_ReaderGet w.fStore e.fId e.fKey hi.store (by simp -implicitDefEqProofs only [go_sem,GStore.cells_eq];first|done|rfl) ?_|fail);simp -implicitDefEqProofs only [go_sem,wdV_eq,GEvent.cells,hk,GStore.cells])
 try rfl
end Go.Rx
