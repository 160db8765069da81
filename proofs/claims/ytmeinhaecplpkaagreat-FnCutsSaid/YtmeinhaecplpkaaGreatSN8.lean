/-
  Part N8: lemmas on an evaluator over plain data of the model's code, plain laws on lists and numbers, or contracts of functions of the program; each lemma names its conditions.
-/
import Derived.Test.YtmeinhaecplpkaaGreatSA1
import Derived.Test.YtmeinhaecplpkaaGreatSC4
import Derived.Test.YtmeinhaecplpkaaGreatSE1
import Derived.Test.YtmeinhaecplpkaaGreatSE2
import Derived.Test.YtmeinhaecplpkaaGreatSE4
import Derived.Test.YtmeinhaecplpkaaGreatSE6
import Derived.Test.YtmeinhaecplpkaaGreatSKI
import Derived.Test.YtmeinhaecplpkaaGreatSN2
import Derived.Test.YtmeinhaecplpkaaGreatSN7
import Derived.Test.YtmeinhaecplpkaaGreatSP1
import Derived.Test.YtmeinhaecplpkaaGreatSP2
import Derived.Test.YtmeinhaecplpkaaGreatSP3
import Derived.Test.YtmeinhaecplpkaaGreatSP4
import Derived.Test.YtmeinhaecplpkaaGreatSP5
import Derived.Test.YtmeinhaecplpkaaGreatSR0

set_option linter.unusedSimpArgs false
set_option linter.unusedVariables false
set_option maxRecDepth 100000
set_option maxHeartbeats 16000000
set_option linter.defProp false
namespace Go.Rx
open Go
attribute [local irreducible] Req Way WayG Sel Z2 ZQ Zaz cVC Zai ZaO
@[go_sem] def hr124:ZW:=hh [[0,1,2],[2,3,4,6],[2,4,6,7],[2,6,7,16,17,18],[2,6,7,16,17,18],[2,6,7,9,16,17,18],[2,6,7,9,16,17,18],[2,6,7,16,17,18],[6,7],[6,7],[6,7]]
@[go_sem] def hl124:ZW:=hh [[],[],[],[2,6,7,16,17,18]]
attribute [go_sem] Go.Proofs.Tryz.results124
theorem ZB0 (d:ZT) (m:ZX) (o:Int) (hd:Zck d) (hm:m.Ze.length≤1048576) (hl:(Z5 m.Ze).length≤1048576) (hs:(Zdq d m o).ZH.Pairwise (·< ·)):ZQ Go.Proofs.Tryz.prog 124 [.d (.agg d.cells),.d (.agg m.cells),.d (.int .i64 o)] [] [.dead,.dead,.dead] (.d (.agg (Zdq d m o).cells)) []:=by
 refine cofF Go.Proofs.Tryz.func124 hr124 hl124 ?_
 simp -implicitDefEqProofs only [go_sem,ZT.cells,ZX.cells]
 repeat ((first|refine rq ?_|refine wl ?_|refine gl ?_|refine ZBc d hd (by simp -implicitDefEqProofs only [go_sem,ZT.cells_eq];first|done|rfl) ?_|fail);simp -implicitDefEqProofs only [go_sem,ZT.cells,ZX.cells])
 refine ZY (α:=Nat) (fun i=>⟨[(2,.d (.int .i64 o)),(6,.ref 0 0),(7,.ref 6 0),(16,.d (.sl (Z9 m.Ze))),(17,.d (.int .i64 m.Ze.length)),(18,.d (.int .i64 i))],[(0,some (.box [.own 1 0 0,.own 2 0 0,.d (.int .i64 0),.own 3 0 0,.own 4 0 0,.own 5 0 0])),(1,some (.arr 1 [])),(2,some (.arr 2 [])),(3,some (.arr 1 [])),(4,some (.arr 1 [])),(5,some (.arr 1 [])),(6,some (.box [.own 7 0 d.Zv.length,.own 8 0 d.Zm.length,.d (.int .i64 m.Zs),.own 9 0 (Zfj m o i).length,.own 10 0 0,.own 11 0 0])),(7,some (.arr 1 (strs d.Zv))),(8,some (.arr 2 (Zae d.Zm))),(9,some (.arr 1 (ints (Zfj m o i)))),(10,some (.arr 1 [])),(11,some (.arr 1 []))]⟩)
  (fun i=>i≤m.Ze.length) (fun i=>m.Ze.length - i) 0 rfl (Nat.zero_le _) ?_
 rintro i i1
 have hul:=ZmH (m:=m) (o:=o) (i:=i)
 have hi1:IntKind.i64.wrap ((i:Int)+1)=((i+1:Nat):Int):=ZV (by simp only [LEN];omega)
 simp -implicitDefEqProofs only [go_sem]
 refine fork (fun h5=>?_) (fun h5=>?_)
 ·obtain ⟨f,hf⟩:=Z3 h5
  have hst:=Zrw (o:=o) hf
  have hul2:=ZmH (m:=m) (o:=o) (i:=i+1)
  by_cases hx:f.ZF≤o
  ·have dx:=decide_eq_true hx
   rw [if_pos hx] at hst
   have hal:(ints (Zfj m o i)).take (Zfj m o i).length++ints f.Zv=ints (Zfj m o (i+1)):=by rw [Zby,Zi3,hst]
   have hln:(Zfj m o i).length+f.Zv.length=(Zfj m o (i+1)).length:=by rw [hst,List.length_append]
   simp -implicitDefEqProofs only [go_sem,Z4 hf,dx,hal,Zi3,←hst,hln]
   repeat ((first|refine rq ?_|refine wl ?_|refine gl ?_|fail);simp -implicitDefEqProofs only [go_sem,Z4 hf,dx,hal,Zi3,←hst,hln])
   rw [hi1]
   refine ZP (i+1) ?_ (by omega) (by omega)
   simp [hst,Zi3]
  ·have dx:=decide_eq_false hx
   rw [if_neg hx,List.append_nil] at hst
   simp -implicitDefEqProofs only [go_sem,Z4 hf,dx]
   repeat ((first|refine rq ?_|refine wl ?_|refine gl ?_|fail);simp -implicitDefEqProofs only [go_sem,Z4 hf,dx])
   rw [hi1,←hst]
   exact ZP (i+1) rfl (by omega) (by omega)
 ·have hi:i=m.Ze.length:=by omega
  subst hi
  have hall:=ZtK (d:=d) (m:=m) (o:=o)
  have hsl:(ZaP (Zfj m o m.Ze.length)).length=(Zfj m o m.Ze.length).length:=Zbw
  rw [←hall] at hs
  simp -implicitDefEqProofs only [go_sem]
  repeat ((first|refine rq ?_|refine wl ?_|refine gl ?_|refine ZBH (Zfj m o m.Ze.length) (by omega) rfl ?_|fail);simp -implicitDefEqProofs only [go_sem])
  rw [←hsl]
  refine km_Compact (ZaP (Zfj m o m.Ze.length)) (by omega) hs rfl ?_
  simp -implicitDefEqProofs only [go_sem]
  repeat ((first|refine rq ?_|refine wl ?_|refine gl ?_|fail);simp -implicitDefEqProofs only [go_sem])
  rw [hall]
  rfl
def ki_WorkNew (d:ZT) (m:ZX) (o:Int) (hd:Zck d) (hm:m.Ze.length≤1048576) (hl:(Z5 m.Ze).length≤1048576) (hs:(Zdq d m o).ZH.Pairwise (·< ·)):=kf (ZB0 d m o hd hm hl hs)
end Go.Rx
