/-
  Part F2: lemmas on an evaluator over plain data of the model's code, plain laws on lists and numbers, or contracts of functions of the program; each lemma names its conditions.
-/
import Derived.Test.YtmeinhaecplpkaaGreatRD6
import Derived.Test.YtmeinhaecplpkaaGreatRD4
import Derived.Test.YtmeinhaecplpkaaGreatRD5

set_option linter.unusedSimpArgs false
set_option linter.unusedVariables false
namespace Go.Rx
open Go
attribute [local irreducible] Req Way WayG Sel callVC CallOK seqVC cVC loopVC nextK
set_option maxRecDepth 100000 in
set_option maxHeartbeats 16000000 in
theorem cs_do3 {w:GWorld} {e:GEvent} {pg:List Int} {view:Int→List GPair} (hi:WInv w pg view) (hk:e.fKind=3):DoC w e (doF w e):=by
 have hd:doF w e=setW w (writeDropF w.fStore e.fKey) fun w=> {w with fNext:=mdrop w.fNext e.fKey}:=by unfold doF;rw [if_neg (by omega),if_neg (by omega),if_pos hk]
 have hml:=hi.model_len
 have hnl:=hi.next
 rcases hr:writeDropF w.fStore e.fKey with ⟨s',c⟩
 have hv:storeV (writeDropF w.fStore e.fKey)= .tup [.d (.agg s'.cells),.d (.int .i64 c)]:=by rw [hr];rfl
 rw [hd,hr]
 unfold setW DoC doV
 simp only
 by_cases hc:c=0
 ·have dc:=decide_eq_true hc
  rw [if_pos hc]
  refine call_of tysZOK mixedZ Go.Proofs.Tryz.func239 (by kernel_rfl) rfl (np:=[true,false]) (by kernel_rfl) hr239 hl239 (by simp [Go.Proofs.Tryz.ntmps239]) ?_
  simp -implicitDefEqProofs only [go_sem,wdV_eq,GEvent.cells,hk]
  simp -implicitDefEqProofs only [go_sem,wdV_eq,GEvent.cells,hk,hv,dc,GStore.cells]
  repeat ((first|refine rq ?_|refine wy ?_|refine wn ?_|refine gy ?_|refine gn ?_|refine ks_WriteDrop w.fStore e.fKey hi.store (by simp -implicitDefEqProofs only [go_sem,GStore.cells_eq];first|done|rfl) ?_|refine ks_ModelDrop w.fNext e.fKey (by omega) rfl ?_|fail);simp -implicitDefEqProofs only [go_sem,wdV_eq,GEvent.cells,hk,hv,dc,GStore.cells])
  try rfl
 ·have dc:=decide_eq_false hc
  rw [if_neg hc]
  refine call_of tysZOK mixedZ Go.Proofs.Tryz.func239 (by kernel_rfl) rfl (np:=[true,false]) (by kernel_rfl) hr239 hl239 (by simp [Go.Proofs.Tryz.ntmps239]) ?_
  simp -implicitDefEqProofs only [go_sem,wdV_eq,GEvent.cells,hk]
  simp -implicitDefEqProofs only [go_sem,wdV_eq,GEvent.cells,hk,hv,dc,GStore.cells]
  repeat ((first|refine rq ?_|refine wy ?_|refine wn ?_|refine gy ?_|refine gn ?_|refine ks_WriteDrop w.fStore e.fKey hi.store (by simp -implicitDefEqProofs only [go_sem,GStore.cells_eq];first|done|rfl) ?_|refine ks_ModelDrop w.fNext e.fKey (by omega) rfl ?_|fail);simp -implicitDefEqProofs only [go_sem,wdV_eq,GEvent.cells,hk,hv,dc,GStore.cells])
  try rfl
set_option maxRecDepth 100000 in
set_option maxHeartbeats 16000000 in
theorem cs_do4 {w:GWorld} {e:GEvent} {pg:List Int} {view:Int→List GPair} (hi:WInv w pg view) (hk:e.fKind=4):DoC w e (doF w e):=by
 have hd:doF w e=setW w (endWriteF w.fStore) fun w=> {w with fModel:=w.fNext}:=by unfold doF;rw [if_neg (by omega),if_neg (by omega),if_neg (by omega),if_pos hk]
 have hml:=hi.model_len
 have hnl:=hi.next
 rcases hr:endWriteF w.fStore with ⟨s',c⟩
 have hv:storeV (endWriteF w.fStore)= .tup [.d (.agg s'.cells),.d (.int .i64 c)]:=by rw [hr];rfl
 rw [hd,hr]
 unfold setW DoC doV
 simp only
 by_cases hc:c=0
 ·have dc:=decide_eq_true hc
  rw [if_pos hc]
  refine call_of tysZOK mixedZ Go.Proofs.Tryz.func239 (by kernel_rfl) rfl (np:=[true,false]) (by kernel_rfl) hr239 hl239 (by simp [Go.Proofs.Tryz.ntmps239]) ?_
  simp -implicitDefEqProofs only [go_sem,wdV_eq,GEvent.cells,hk]
  simp -implicitDefEqProofs only [go_sem,wdV_eq,GEvent.cells,hk,hv,dc,GStore.cells]
  repeat ((first|refine rq ?_|refine wy ?_|refine wn ?_|refine gy ?_|refine gn ?_|refine ks_EndWrite w.fStore hi.store (by simp -implicitDefEqProofs only [go_sem,GStore.cells_eq];first|done|rfl) ?_|refine ks_l16Pairs w.fNext (by omega) rfl ?_|fail);simp -implicitDefEqProofs only [go_sem,wdV_eq,GEvent.cells,hk,hv,dc,GStore.cells])
  try rfl
 ·have dc:=decide_eq_false hc
  rw [if_neg hc]
  refine call_of tysZOK mixedZ Go.Proofs.Tryz.func239 (by kernel_rfl) rfl (np:=[true,false]) (by kernel_rfl) hr239 hl239 (by simp [Go.Proofs.Tryz.ntmps239]) ?_
  simp -implicitDefEqProofs only [go_sem,wdV_eq,GEvent.cells,hk]
  simp -implicitDefEqProofs only [go_sem,wdV_eq,GEvent.cells,hk,hv,dc,GStore.cells]
  repeat ((first|refine rq ?_|refine wy ?_|refine wn ?_|refine gy ?_|refine gn ?_|refine ks_EndWrite w.fStore hi.store (by simp -implicitDefEqProofs only [go_sem,GStore.cells_eq];first|done|rfl) ?_|refine ks_l16Pairs w.fNext (by omega) rfl ?_|fail);simp -implicitDefEqProofs only [go_sem,wdV_eq,GEvent.cells,hk,hv,dc,GStore.cells])
  try rfl
set_option maxRecDepth 100000 in
set_option maxHeartbeats 16000000 in
theorem cs_do5 {w:GWorld} {e:GEvent} {pg:List Int} {view:Int→List GPair} (hi:WInv w pg view) (hk:e.fKind=5):DoC w e (doF w e):=by
 have hd:doF w e=setW w (stopWriteF w.fStore) id:=by unfold doF;rw [if_neg (by omega),if_neg (by omega),if_neg (by omega),if_neg (by omega),if_pos hk]
 have hml:=hi.model_len
 have hnl:=hi.next
 rcases hr:stopWriteF w.fStore with ⟨s',c⟩
 have hv:storeV (stopWriteF w.fStore)= .tup [.d (.agg s'.cells),.d (.int .i64 c)]:=by rw [hr];rfl
 rw [hd,hr]
 unfold setW DoC doV
 simp only
 by_cases hc:c=0
 ·have dc:=decide_eq_true hc
  rw [if_pos hc]
  refine call_of tysZOK mixedZ Go.Proofs.Tryz.func239 (by kernel_rfl) rfl (np:=[true,false]) (by kernel_rfl) hr239 hl239 (by simp [Go.Proofs.Tryz.ntmps239]) ?_
  simp -implicitDefEqProofs only [go_sem,wdV_eq,GEvent.cells,hk]
  simp -implicitDefEqProofs only [go_sem,wdV_eq,GEvent.cells,hk,hv,dc,GStore.cells]
  repeat ((first|refine rq ?_|refine wy ?_|refine wn ?_|refine gy ?_|refine gn ?_|refine ks_StopWrite w.fStore hi.store (by simp -implicitDefEqProofs only [go_sem,GStore.cells_eq];first|done|rfl) ?_|fail);simp -implicitDefEqProofs only [go_sem,wdV_eq,GEvent.cells,hk,hv,dc,GStore.cells])
  try rfl
 ·have dc:=decide_eq_false hc
  rw [if_neg hc]
  refine call_of tysZOK mixedZ Go.Proofs.Tryz.func239 (by kernel_rfl) rfl (np:=[true,false]) (by kernel_rfl) hr239 hl239 (by simp [Go.Proofs.Tryz.ntmps239]) ?_
  simp -implicitDefEqProofs only [go_sem,wdV_eq,GEvent.cells,hk]
  simp -implicitDefEqProofs only [go_sem,wdV_eq,GEvent.cells,hk,hv,dc,GStore.cells]
  repeat ((first|refine rq ?_|refine wy ?_|refine wn ?_|refine gy ?_|refine gn ?_|refine ks_StopWrite w.fStore hi.store (by simp -implicitDefEqProofs only [go_sem,GStore.cells_eq];first|done|rfl) ?_|fail);simp -implicitDefEqProofs only [go_sem,wdV_eq,GEvent.cells,hk,hv,dc,GStore.cells])
  try rfl
end Go.Rx
