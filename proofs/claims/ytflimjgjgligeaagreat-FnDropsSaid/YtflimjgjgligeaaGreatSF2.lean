/-
  Part F2: lemmas on an evaluator over plain data of the model's code, plain laws on lists and numbers, or contracts of functions of the program; each lemma names its conditions.
-/
import Derived.Test.YtflimjgjgligeaaGreatSD6
import Derived.Test.YtflimjgjgligeaaGreatSD4
import Derived.Test.YtflimjgjgligeaaGreatSD5

set_option linter.unusedSimpArgs false
set_option linter.unusedVariables false
set_option maxRecDepth 100000
set_option maxHeartbeats 16000000
namespace Go.Rx
open Go
attribute [local irreducible] Req Way WayG Sel Z2 ZQ Zaz cVC Zai ZaO
theorem cs_do3 {w:Zac} {e:Z6} {pg:List Int} {view:Int→List ZR} (hi:WInv w pg view) (hk:e.Zl=3):DoC w e (doF w e):=by
 have hd:doF w e=setW w (ZcT w.ZB e.Zi) fun w=> {w with Zs:=ZeI w.Zs e.Zi}:=by unfold doF;rw [if_neg (by omega),if_neg (by omega),if_pos hk]
 have hml:=hi.model_len;have hnl:=hi.next;rcases hr:ZcT w.ZB e.Zi with ⟨s',c⟩
 have hv:Zci (ZcT w.ZB e.Zi)= .tup [.d (.agg s'.cells),.d (.int .i64 c)]:=by rw [hr];rfl
 rw [hd,hr];unfold setW DoC doV;simp only;by_cases hc:c=0
 ·have dc:=decide_eq_true hc;rw [if_pos hc];refine cof Go.Proofs.Tryz.func262 hr262 hl262 [true,false] ?_;simp -implicitDefEqProofs only [go_sem,ZZ,Z6.cells,hk];simp -implicitDefEqProofs only [go_sem,ZZ,Z6.cells,hk,hv,dc,ZN.cells];repeat ((first|refine rq ?_|refine wl ?_|refine gl ?_|refine Zip w.ZB e.Zi hi.store (by simp -implicitDefEqProofs only [go_sem,ZN.cells_eq];first|done|rfl) ?_|refine Zir w.Zs e.Zi (by omega) rfl ?_|fail);simp -implicitDefEqProofs only [go_sem,ZZ,Z6.cells,hk,hv,dc,ZN.cells])
  try rfl
 ·have dc:=decide_eq_false hc;rw [if_neg hc];refine cof Go.Proofs.Tryz.func262 hr262 hl262 [true,false] ?_;simp -implicitDefEqProofs only [go_sem,ZZ,Z6.cells,hk];simp -implicitDefEqProofs only [go_sem,ZZ,Z6.cells,hk,hv,dc,ZN.cells];repeat ((first|refine rq ?_|refine wl ?_|refine gl ?_|refine Zip w.ZB e.Zi hi.store (by simp -implicitDefEqProofs only [go_sem,ZN.cells_eq];first|done|rfl) ?_|refine Zir w.Zs e.Zi (by omega) rfl ?_|fail);simp -implicitDefEqProofs only [go_sem,ZZ,Z6.cells,hk,hv,dc,ZN.cells])
  try rfl
theorem cs_do4 {w:Zac} {e:Z6} {pg:List Int} {view:Int→List ZR} (hi:WInv w pg view) (hk:e.Zl=4):DoC w e (doF w e):=by
 have hd:doF w e=setW w (Zd7 w.ZB) fun w=> {w with Zq:=w.Zs}:=by unfold doF;rw [if_neg (by omega),if_neg (by omega),if_neg (by omega),if_pos hk]
 have hml:=hi.model_len;have hnl:=hi.next;rcases hr:Zd7 w.ZB with ⟨s',c⟩
 have hv:Zci (Zd7 w.ZB)= .tup [.d (.agg s'.cells),.d (.int .i64 c)]:=by rw [hr];rfl
 rw [hd,hr];unfold setW DoC doV;simp only;by_cases hc:c=0
 ·have dc:=decide_eq_true hc;rw [if_pos hc];refine cof Go.Proofs.Tryz.func262 hr262 hl262 [true,false] ?_;simp -implicitDefEqProofs only [go_sem,ZZ,Z6.cells,hk];simp -implicitDefEqProofs only [go_sem,ZZ,Z6.cells,hk,hv,dc,ZN.cells];repeat ((first|refine rq ?_|refine wl ?_|refine gl ?_|refine ZjU w.ZB hi.store (by simp -implicitDefEqProofs only [go_sem,ZN.cells_eq];first|done|rfl) ?_|refine Zd2 w.Zs (by omega) rfl ?_|fail);simp -implicitDefEqProofs only [go_sem,ZZ,Z6.cells,hk,hv,dc,ZN.cells])
  try rfl
 ·have dc:=decide_eq_false hc;rw [if_neg hc];refine cof Go.Proofs.Tryz.func262 hr262 hl262 [true,false] ?_;simp -implicitDefEqProofs only [go_sem,ZZ,Z6.cells,hk];simp -implicitDefEqProofs only [go_sem,ZZ,Z6.cells,hk,hv,dc,ZN.cells];repeat ((first|refine rq ?_|refine wl ?_|refine gl ?_|refine ZjU w.ZB hi.store (by simp -implicitDefEqProofs only [go_sem,ZN.cells_eq];first|done|rfl) ?_|refine Zd2 w.Zs (by omega) rfl ?_|fail);simp -implicitDefEqProofs only [go_sem,ZZ,Z6.cells,hk,hv,dc,ZN.cells])
  try rfl
theorem cs_do5 {w:Zac} {e:Z6} {pg:List Int} {view:Int→List ZR} (hi:WInv w pg view) (hk:e.Zl=5):DoC w e (doF w e):=by
 have hd:doF w e=setW w (Zba w.ZB) id:=by unfold doF;rw [if_neg (by omega),if_neg (by omega),if_neg (by omega),if_neg (by omega),if_pos hk]
 have hml:=hi.model_len;have hnl:=hi.next;rcases hr:Zba w.ZB with ⟨s',c⟩
 have hv:Zci (Zba w.ZB)= .tup [.d (.agg s'.cells),.d (.int .i64 c)]:=by rw [hr];rfl
 rw [hd,hr];unfold setW DoC doV;simp only;by_cases hc:c=0
 ·have dc:=decide_eq_true hc;rw [if_pos hc];refine cof Go.Proofs.Tryz.func262 hr262 hl262 [true,false] ?_;simp -implicitDefEqProofs only [go_sem,ZZ,Z6.cells,hk];simp -implicitDefEqProofs only [go_sem,ZZ,Z6.cells,hk,hv,dc,ZN.cells];repeat ((first|refine rq ?_|refine wl ?_|refine gl ?_|refine Zdj w.ZB hi.store (by simp -implicitDefEqProofs only [go_sem,ZN.cells_eq];first|done|rfl) ?_|fail);simp -implicitDefEqProofs only [go_sem,ZZ,Z6.cells,hk,hv,dc,ZN.cells])
  try rfl
 ·have dc:=decide_eq_false hc;rw [if_neg hc];refine cof Go.Proofs.Tryz.func262 hr262 hl262 [true,false] ?_;simp -implicitDefEqProofs only [go_sem,ZZ,Z6.cells,hk];simp -implicitDefEqProofs only [go_sem,ZZ,Z6.cells,hk,hv,dc,ZN.cells];repeat ((first|refine rq ?_|refine wl ?_|refine gl ?_|refine Zdj w.ZB hi.store (by simp -implicitDefEqProofs only [go_sem,ZN.cells_eq];first|done|rfl) ?_|fail);simp -implicitDefEqProofs only [go_sem,ZZ,Z6.cells,hk,hv,dc,ZN.cells])
  try rfl
end Go.Rx
