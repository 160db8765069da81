/-
  Part F1: lemmas on an evaluator over plain data of the model's code, plain laws on lists and numbers, or contracts of functions of the program; each lemma names its conditions.
-/
import Derived.Test.YtflimjgjgligeaaGreatSD6
import Derived.Test.YtflimjgjgligeaaGreatSD3
import Derived.Test.YtflimjgjgligeaaGreatSD4

set_option linter.unusedSimpArgs false
set_option linter.unusedVariables false
set_option maxRecDepth 100000
set_option maxHeartbeats 16000000
namespace Go.Rx
open Go
attribute [local irreducible] Req Way WayG Sel Z2 ZQ Zaz cVC Zai ZaO
theorem cs_do1 {w:Zac} {e:Z6} {pg:List Int} {view:Int→List ZR} (hi:WInv w pg view) (hk:e.Zl=1):DoC w e (doF w e):=by
 have hd:doF w e=setW w (Zb3 w.ZB) fun w=> {w with Zs:=w.Zq}:=by unfold doF;rw [if_pos hk]
 have hml:=hi.model_len;have hnl:=hi.next;rcases hr:Zb3 w.ZB with ⟨s',c⟩
 have hv:Zci (Zb3 w.ZB)= .tup [.d (.agg s'.cells),.d (.int .i64 c)]:=by rw [hr];rfl
 rw [hd,hr];unfold setW DoC doV;simp only;by_cases hc:c=0
 ·have dc:=decide_eq_true hc;rw [if_pos hc];refine cof Go.Proofs.Tryz.func262 hr262 hl262 [true,false] ?_;simp -implicitDefEqProofs only [go_sem,ZZ,Z6.cells,hk];simp -implicitDefEqProofs only [go_sem,ZZ,Z6.cells,hk,hv,dc,ZN.cells];repeat ((first|refine rq ?_|refine wl ?_|refine gl ?_|refine Zhh w.ZB hi.store (by simp -implicitDefEqProofs only [go_sem,ZN.cells_eq];first|done|rfl) ?_|refine Zd2 w.Zq (by omega) rfl ?_|fail);simp -implicitDefEqProofs only [go_sem,ZZ,Z6.cells,hk,hv,dc,ZN.cells])
  try rfl
 ·have dc:=decide_eq_false hc;rw [if_neg hc];refine cof Go.Proofs.Tryz.func262 hr262 hl262 [true,false] ?_;simp -implicitDefEqProofs only [go_sem,ZZ,Z6.cells,hk];simp -implicitDefEqProofs only [go_sem,ZZ,Z6.cells,hk,hv,dc,ZN.cells];repeat ((first|refine rq ?_|refine wl ?_|refine gl ?_|refine Zhh w.ZB hi.store (by simp -implicitDefEqProofs only [go_sem,ZN.cells_eq];first|done|rfl) ?_|refine Zd2 w.Zq (by omega) rfl ?_|fail);simp -implicitDefEqProofs only [go_sem,ZZ,Z6.cells,hk,hv,dc,ZN.cells])
  try rfl
theorem cs_do2 {w:Zac} {e:Z6} {pg:List Int} {view:Int→List ZR} (hi:WInv w pg view) (hk:e.Zl=2):DoC w e (doF w e):=by
 have hd:doF w e=setW w (ZdP w.ZB e.Zi e.ZI) fun w=> {w with Zs:=mput w.Zs e.Zi e.ZI}:=by unfold doF;rw [if_neg (by omega),if_pos hk]
 have hml:=hi.model_len;have hnl:=hi.next;rcases hr:ZdP w.ZB e.Zi e.ZI with ⟨s',c⟩
 have hv:Zci (ZdP w.ZB e.Zi e.ZI)= .tup [.d (.agg s'.cells),.d (.int .i64 c)]:=by rw [hr];rfl
 rw [hd,hr];unfold setW DoC doV;simp only;by_cases hc:c=0
 ·have dc:=decide_eq_true hc;rw [if_pos hc];refine cof Go.Proofs.Tryz.func262 hr262 hl262 [true,false] ?_;simp -implicitDefEqProofs only [go_sem,ZZ,Z6.cells,hk];simp -implicitDefEqProofs only [go_sem,ZZ,Z6.cells,hk,hv,dc,ZN.cells];repeat ((first|refine rq ?_|refine wl ?_|refine gl ?_|refine ZjP w.ZB e.Zi e.ZI hi.store (by simp -implicitDefEqProofs only [go_sem,ZN.cells_eq];first|done|rfl) ?_|refine Zd3 (xs:=[.sl (Zaj w.Zs),.str e.Zi,.str e.ZI]) (ZiC w.Zs e.Zi e.ZI (by omega)) rfl rfl ?_|fail);simp -implicitDefEqProofs only [go_sem,ZZ,Z6.cells,hk,hv,dc,ZN.cells])
  try rfl
 ·have dc:=decide_eq_false hc;rw [if_neg hc];refine cof Go.Proofs.Tryz.func262 hr262 hl262 [true,false] ?_;simp -implicitDefEqProofs only [go_sem,ZZ,Z6.cells,hk];simp -implicitDefEqProofs only [go_sem,ZZ,Z6.cells,hk,hv,dc,ZN.cells];repeat ((first|refine rq ?_|refine wl ?_|refine gl ?_|refine ZjP w.ZB e.Zi e.ZI hi.store (by simp -implicitDefEqProofs only [go_sem,ZN.cells_eq];first|done|rfl) ?_|refine Zd3 (xs:=[.sl (Zaj w.Zs),.str e.Zi,.str e.ZI]) (ZiC w.Zs e.Zi e.ZI (by omega)) rfl rfl ?_|fail);simp -implicitDefEqProofs only [go_sem,ZZ,Z6.cells,hk,hv,dc,ZN.cells])
  try rfl
theorem cs_do7 {w:Zac} {e:Z6} {pg:List Int} {view:Int→List ZR} (hi:WInv w pg view) (hk:e.Zl=7):DoC w e (doF w e):=by
 have hd:doF w e=(w,(Zc0 w.ZB e.Zh e.Zi).2,(Zc0 w.ZB e.Zh e.Zi).1):=by unfold doF;rw [if_neg (by omega),if_neg (by omega),if_neg (by omega),if_neg (by omega),if_neg (by omega),if_neg (by omega),if_pos hk]
 rw [hd];unfold DoC doV;simp only;refine cof Go.Proofs.Tryz.func262 hr262 hl262 [true,false] ?_;simp -implicitDefEqProofs only [go_sem,ZZ,Z6.cells,hk];simp -implicitDefEqProofs only [go_sem,ZZ,Z6.cells,hk,ZN.cells];repeat ((first|refine rq ?_|refine wl ?_|refine gl ?_|refine Znu w.ZB e.Zh e.Zi hi.store (by simp -implicitDefEqProofs only [go_sem,ZN.cells_eq];first|done|rfl) ?_|fail);simp -implicitDefEqProofs only [go_sem,ZZ,Z6.cells,hk,ZN.cells])
 try rfl
end Go.Rx
