/-
  Part D5: lemmas on an evaluator over plain data of the model's code, plain laws on lists and numbers, or contracts of functions of the program; each lemma names its conditions.
-/
import Derived.Test.YtflimjgjgligeaaGreatSD1
import Derived.Test.YtflimjgjgligeaaGreatSP5
import Derived.Test.YtflimjgjgligeaaGreatSC5

set_option linter.unusedSimpArgs false
set_option linter.unusedVariables false
set_option maxRecDepth 100000
set_option maxHeartbeats 16000000
set_option linter.defProp false
namespace Go.Rx
open Go
attribute [local irreducible] Req Way WayG Sel Z2 ZQ Zaz cVC Zai ZaO
@[go_sem] def hr313:ZW:=hh [[0,1,2],[3,4,5,6],[4,5,6,7],[5,6,7],[6,7],[6,7],[6,7],[6,7]]
@[go_sem] def hl313:ZW:=hh []
attribute [go_sem] Go.Proofs.Tryz.results313
theorem ZsB (s:ZN) (d:ZT) (m:ZX) (hs:ZiE s):ZQ Go.Proofs.Tryz.prog 313 [.d (.agg s.cells),.d (.agg d.cells),.d (.agg m.cells)] [] [.dead,.dead,.dead] (.d (.agg (ZoU s d m).cells)) []:=by
 refine cofF Go.Proofs.Tryz.func313 hr313 hl313 ?_;simp -implicitDefEqProofs only [go_sem,ZN.cells,ZT.cells,ZX.cells];repeat ((first|refine rq ?_|refine wl ?_|refine gl ?_|refine ZaF s hs (by simp -implicitDefEqProofs only [go_sem,ZN.cells_eq];first|done|rfl) ?_|fail);simp -implicitDefEqProofs only [go_sem,ZN.cells,ZT.cells,ZX.cells])
 try rfl
def Zli (s:ZN) (d:ZT) (m:ZX) (hs:ZiE s):=kf (ZsB s d m hs)
@[go_sem] def hr292:ZW:=hh [[0],[1,2],[1,2],[1,2]]
@[go_sem] def hl292:ZW:=hh []
attribute [go_sem] Go.Proofs.Tryz.results292
theorem Zn8 {ps:List ZR} {pg:List Int} {next:List ZR} {view:Int→List ZR} (s:ZN) (hi:Zap s ps pg next view):ZQ Go.Proofs.Tryz.prog 292 [.d (.agg s.cells)] [] [.dead] (Zci (Zba s)) []:=by
 refine cofF Go.Proofs.Tryz.func292 hr292 hl292 ?_;have hs:=hi.small;unfold Zci Zba;cases hw:s.ZL
 ·rw [if_pos rfl];simp -implicitDefEqProofs only [go_sem,hw,ZN.cells];repeat ((first|refine rq ?_|refine wl ?_|refine gl ?_|refine ZaF s hs (by simp -implicitDefEqProofs only [go_sem,ZN.cells_eq,hw];first|done|rfl) ?_|fail);simp -implicitDefEqProofs only [go_sem,hw,ZN.cells])
  try rfl
 ·rw [if_neg (by simp)];simp -implicitDefEqProofs only [go_sem,hw,ZN.cells,ZT.cells,ZX.cells];repeat ((first|refine rq ?_|refine wl ?_|refine gl ?_|refine Zc4 s.ZG.ZK.Zc hs.work.1 (by simp -implicitDefEqProofs only [go_sem,ZT.cells_eq];first|done|rfl) ?_|refine ZbY s.Zp (ZaK hs.mt) (by simp -implicitDefEqProofs only [go_sem,ZX.cells_eq];first|done|rfl) ?_|refine Zli s (Za6 s.ZG.ZK.Zc) s.Zp hs (by simp -implicitDefEqProofs only [go_sem,ZN.cells_eq,ZT.cells_eq,ZX.cells_eq,hw];first|done|rfl) ?_|fail);simp -implicitDefEqProofs only [go_sem,hw,ZN.cells,ZT.cells,ZX.cells])
  try rfl
def Zdj {ps:List ZR} {pg:List Int} {next:List ZR} {view:Int→List ZR} (s:ZN) (hi:Zap s ps pg next view):=kf (Zn8 s hi)
@[go_sem] def hr291:ZW:=hh [[0],[1,2],[1,2],[1,2],[1,2,4,5,6],[1,2],[2,7],[1,2,4,5]]
@[go_sem] def hl291:ZW:=hh []
attribute [go_sem] Go.Proofs.Tryz.results291
theorem ZpS {ps:List ZR} {pg:List Int} {next:List ZR} {view:Int→List ZR} (s:ZN) (hi:Zap s ps pg next view):ZQ Go.Proofs.Tryz.prog 291 [.d (.agg s.cells)] [] [.dead] (Zci (Zd7 s)) []:=by
 refine cofF Go.Proofs.Tryz.func291 hr291 hl291 ?_;have hs:=hi.small;unfold Zci Zd7;cases hw:s.ZL
 ·rw [if_pos rfl];simp -implicitDefEqProofs only [go_sem,hw,ZN.cells];repeat ((first|refine rq ?_|refine wl ?_|refine gl ?_|refine ZaF s hs (by simp -implicitDefEqProofs only [go_sem,ZN.cells_eq,hw];first|done|rfl) ?_|fail);simp -implicitDefEqProofs only [go_sem,hw,ZN.cells])
  try rfl
 ·rw [if_neg (by simp)];obtain ⟨o,pgn,_,_,hx⟩:=hi.txn hw;obtain ⟨b1,b3,b4⟩:=ZkQ hi.disk hx;have hst:Zci (Zba s)= .tup [.d (.agg (Zba s).1.cells),.d (.int .i64 (Zba s).2)]:=rfl;cases hc:Zev s.ZG with
  |none=>
   have hv:Zh4 s.ZG= .tup [.d (.agg s.ZG.ZK.Zc.cells),.d (.agg s.ZG.Za.cells),.d (.bool false)]:=by rw [Zh4,hc]
   cases hf:s.Zd<;>simp only
   ·simp -implicitDefEqProofs only [go_sem,hw,hf,hv,hst,ZT.cells,ZX.cells,ZN.cells];repeat ((first|refine rq ?_|refine wl ?_|refine gl ?_|refine Zhk s.ZG b1 hs.work b3 b4 (by simp -implicitDefEqProofs only [go_sem,GTxn.cells_eq];first|done|rfl) ?_|refine Zdj s hi (by simp -implicitDefEqProofs only [go_sem,ZN.cells_eq,hw,hf];first|done|rfl) ?_|fail);simp -implicitDefEqProofs only [go_sem,hw,hf,hv,hst,ZT.cells,ZX.cells,ZN.cells])
    try rfl
   ·simp -implicitDefEqProofs only [go_sem,hw,hf,hv,hst,ZT.cells,ZX.cells,ZN.cells];repeat ((first|refine rq ?_|refine wl ?_|refine gl ?_|refine Zhk s.ZG b1 hs.work b3 b4 (by simp -implicitDefEqProofs only [go_sem,GTxn.cells_eq];first|done|rfl) ?_|refine Zdj s hi (by simp -implicitDefEqProofs only [go_sem,ZN.cells_eq,hw,hf];first|done|rfl) ?_|fail);simp -implicitDefEqProofs only [go_sem,hw,hf,hv,hst,ZT.cells,ZX.cells,ZN.cells])
    try rfl
  |some r=>
   obtain ⟨d,m⟩:=r;have hv:Zh4 s.ZG= .tup [.d (.agg d.cells),.d (.agg m.cells),.d (.bool true)]:=by rw [Zh4,hc]
   cases hf:s.Zd
   ·simp only [Bool.false_eq_true,if_false];simp -implicitDefEqProofs only [go_sem,hw,hf,hv,ZT.cells,ZX.cells,ZN.cells];repeat ((first|refine rq ?_|refine wl ?_|refine gl ?_|refine Zhk s.ZG b1 hs.work b3 b4 (by simp -implicitDefEqProofs only [go_sem,GTxn.cells_eq];first|done|rfl) ?_|refine Zli s d m hs (by simp -implicitDefEqProofs only [go_sem,ZN.cells_eq,ZT.cells_eq,ZX.cells_eq,hw,hf];first|done|rfl) ?_|fail);simp -implicitDefEqProofs only [go_sem,hw,hf,hv,ZT.cells,ZX.cells,ZN.cells])
    try rfl
   ·simp only [if_true];simp -implicitDefEqProofs only [go_sem,hw,hf,hv,hst,ZT.cells,ZX.cells,ZN.cells];repeat ((first|refine rq ?_|refine wl ?_|refine gl ?_|refine Zhk s.ZG b1 hs.work b3 b4 (by simp -implicitDefEqProofs only [go_sem,GTxn.cells_eq];first|done|rfl) ?_|refine Zdj s hi (by simp -implicitDefEqProofs only [go_sem,ZN.cells_eq,hw,hf];first|done|rfl) ?_|fail);simp -implicitDefEqProofs only [go_sem,hw,hf,hv,hst,ZT.cells,ZX.cells,ZN.cells])
    try rfl
def ZjU {ps:List ZR} {pg:List Int} {next:List ZR} {view:Int→List ZR} (s:ZN) (hi:Zap s ps pg next view):=kf (ZpS s hi)
end Go.Rx
