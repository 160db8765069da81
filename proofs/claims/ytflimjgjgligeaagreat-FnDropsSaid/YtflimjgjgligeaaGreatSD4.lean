/-
  Part D4: lemmas on an evaluator over plain data of the model's code, plain laws on lists and numbers, or contracts of functions of the program; each lemma names its conditions.
-/
import Derived.Test.YtflimjgjgligeaaGreatSD1
import Derived.Test.YtflimjgjgligeaaGreatSC4
import Derived.Test.YtflimjgjgligeaaGreatSP5

set_option linter.unusedSimpArgs false
set_option linter.unusedVariables false
set_option maxRecDepth 100000
set_option maxHeartbeats 16000000
set_option linter.defProp false
namespace Go.Rx
open Go
attribute [local irreducible] Req Way WayG Sel Z2 ZQ Zaz cVC Zai ZaO
@[go_sem] def hr289:ZW:=hh [[0,1,2],[1,2,3,6],[1,2,3,6,8],[6,8],[1,2,3,6,8],[6,8],[1,2,3,6,8],[6,8,9,10],[6,8],[6,8],[6,8,9],[6,8]]
@[go_sem] def hl289:ZW:=hh []
attribute [go_sem] Go.Proofs.Tryz.results289
theorem ZpE {ps:List ZR} {pg:List Int} {next:List ZR} {view:Int→List ZR} (s:ZN) (key val:Key) (hi:Zap s ps pg next view):ZQ Go.Proofs.Tryz.prog 289 [.d (.agg s.cells),.d (.str key),.d (.str val)] [] [.dead,.dead,.dead] (Zci (ZdP s key val)) []:=by
 refine cofF Go.Proofs.Tryz.func289 hr289 hl289 ?_;have hs:=hi.small;unfold Zci ZdP;cases hw:s.ZL
 ·rw [if_pos rfl];simp -implicitDefEqProofs only [go_sem,hw,ZN.cells];repeat ((first|refine rq ?_|refine wl ?_|refine gl ?_|refine ZaF s hs (by simp -implicitDefEqProofs only [go_sem,ZN.cells_eq,hw];first|done|rfl) ?_|fail);simp -implicitDefEqProofs only [go_sem,hw,ZN.cells])
  try rfl
 ·rw [if_neg (by simp)];by_cases g1:24<key.length∨24<val.length
  ·rw [if_pos g1];by_cases g2:24<key.length
   ·have d2:decide ((24:Int)<key.length)=true:=decide_eq_true (by omega);simp -implicitDefEqProofs only [go_sem,hw,d2,ZN.cells];repeat ((first|refine rq ?_|refine wl ?_|refine gl ?_|refine ZaF s hs (by simp -implicitDefEqProofs only [go_sem,ZN.cells_eq,hw];first|done|rfl) ?_|fail);simp -implicitDefEqProofs only [go_sem,hw,d2,ZN.cells])
    try rfl
   ·have d2:decide ((24:Int)<key.length)=false:=decide_eq_false (by omega);have d3:decide ((24:Int)<val.length)=true:=decide_eq_true (by omega);simp -implicitDefEqProofs only [go_sem,hw,d2,d3,ZN.cells];repeat ((first|refine rq ?_|refine wl ?_|refine gl ?_|refine ZaF s hs (by simp -implicitDefEqProofs only [go_sem,ZN.cells_eq,hw];first|done|rfl) ?_|fail);simp -implicitDefEqProofs only [go_sem,hw,d2,d3,ZN.cells])
    try rfl
  ·rw [if_neg g1];have d2:decide ((24:Int)<key.length)=false:=decide_eq_false (by omega);have d3:decide ((24:Int)<val.length)=false:=decide_eq_false (by omega);obtain ⟨o,pgn,_,_,hx⟩:=hi.txn hw;have hB:=hi.disk.pages_len;cases hp:putT s.ZG key val with
   |none=>
    have hv:txnV (putT s.ZG key val) s.ZG= .tup [.d (.agg s.ZG.cells),.d (.bool false)]:=by rw [hp];rfl
    simp only [Zje];simp -implicitDefEqProofs only [go_sem,hw,d2,d3,hv,ZN.cells,GTxn.cells];repeat ((first|refine rq ?_|refine wl ?_|refine gl ?_|refine ZaF s hs (by simp -implicitDefEqProofs only [go_sem,ZN.cells_eq,hw];first|done|rfl) ?_|refine ZjR s.ZG key val hB hs.base hx.txs (by simp -implicitDefEqProofs only [go_sem,GTxn.cells_eq];first|done|rfl) ?_|fail);simp -implicitDefEqProofs only [go_sem,hw,d2,d3,hv,ZN.cells,GTxn.cells])
    try rfl
   |some t=>
    have hv:txnV (putT s.ZG key val) s.ZG= .tup [.d (.agg t.cells),.d (.bool true)]:=by rw [hp];rfl
    simp only [Zje];simp -implicitDefEqProofs only [go_sem,hw,d2,d3,hv,ZN.cells,GTxn.cells];repeat ((first|refine rq ?_|refine wl ?_|refine gl ?_|refine ZaF s hs (by simp -implicitDefEqProofs only [go_sem,ZN.cells_eq,hw];first|done|rfl) ?_|refine ZjR s.ZG key val hB hs.base hx.txs (by simp -implicitDefEqProofs only [go_sem,GTxn.cells_eq];first|done|rfl) ?_|fail);simp -implicitDefEqProofs only [go_sem,hw,d2,d3,hv,ZN.cells,GTxn.cells])
    try rfl
def ZjP {ps:List ZR} {pg:List Int} {next:List ZR} {view:Int→List ZR} (s:ZN) (key val:Key) (hi:Zap s ps pg next view):=kf (ZpE s key val hi)
@[go_sem] def hr290:ZW:=hh [[0,1],[1,2,4],[1,2,4,6],[4,6],[1,2,4,6],[1,2,4,6,8],[4,6],[1,2,4,6],[4,6,9,10],[4,6],[4,6],[4,6,9],[4,6]]
@[go_sem] def hl290:ZW:=hh []
attribute [go_sem] Go.Proofs.Tryz.results290
theorem Zn7 {ps:List ZR} {pg:List Int} {next:List ZR} {view:Int→List ZR} (s:ZN) (key:Key) (hi:Zap s ps pg next view):ZQ Go.Proofs.Tryz.prog 290 [.d (.agg s.cells),.d (.str key)] [] [.dead,.dead] (Zci (ZcT s key)) []:=by
 refine cofF Go.Proofs.Tryz.func290 hr290 hl290 ?_;have hs:=hi.small;unfold Zci ZcT;cases hw:s.ZL
 ·rw [if_pos rfl];simp -implicitDefEqProofs only [go_sem,hw,ZN.cells];repeat ((first|refine rq ?_|refine wl ?_|refine gl ?_|refine ZaF s hs (by simp -implicitDefEqProofs only [go_sem,ZN.cells_eq,hw];first|done|rfl) ?_|fail);simp -implicitDefEqProofs only [go_sem,hw,ZN.cells])
  try rfl
 ·rw [if_neg (by simp)];obtain ⟨o,pgn,_,_,hx⟩:=hi.txn hw;have hB:=hi.disk.pages_len;have hdk:=hx.txs.ok.disk;cases hg:getW s.ZG.ZK.Zc 8 s.ZG.Zy key with
  |none=>
   have hv:optV (getW s.ZG.ZK.Zc 8 s.ZG.Zy key)= .tup [.d (.str []),.d (.bool false)]:=by rw [hg];rfl
   simp -implicitDefEqProofs only [go_sem,hw,hv,ZN.cells];repeat ((first|refine rq ?_|refine wl ?_|refine gl ?_|refine ZaF s hs (by simp -implicitDefEqProofs only [go_sem,ZN.cells_eq,hw];first|done|rfl) ?_|refine ZfA s.ZG.ZK.Zc s.ZG.Zy key (Zb4 hdk).1 (Zb4 hdk).2 (Zbk hdk) (by simp -implicitDefEqProofs only [go_sem,ZT.cells_eq];first|done|rfl) ?_|fail);simp -implicitDefEqProofs only [go_sem,hw,hv,ZN.cells])
   try rfl
  |some v=>
   have hv:optV (getW s.ZG.ZK.Zc 8 s.ZG.Zy key)= .tup [.d (.str v),.d (.bool true)]:=by rw [hg];rfl
   cases hp:ZgR s.ZG key with
   |none=>
    have hv2:txnV (ZgR s.ZG key) s.ZG= .tup [.d (.agg s.ZG.cells),.d (.bool false)]:=by rw [hp];rfl
    simp only [Zje];simp -implicitDefEqProofs only [go_sem,hw,hv,hv2,ZN.cells,GTxn.cells];repeat ((first|refine rq ?_|refine wl ?_|refine gl ?_|refine ZaF s hs (by simp -implicitDefEqProofs only [go_sem,ZN.cells_eq,hw];first|done|rfl) ?_|refine ZfA s.ZG.ZK.Zc s.ZG.Zy key (Zb4 hdk).1 (Zb4 hdk).2 (Zbk hdk) (by simp -implicitDefEqProofs only [go_sem,ZT.cells_eq];first|done|rfl) ?_|refine ZhX s.ZG key hB hs.base hx.txs (by simp -implicitDefEqProofs only [go_sem,GTxn.cells_eq];first|done|rfl) ?_|fail);simp -implicitDefEqProofs only [go_sem,hw,hv,hv2,ZN.cells,GTxn.cells])
    try rfl
   |some t=>
    have hv2:txnV (ZgR s.ZG key) s.ZG= .tup [.d (.agg t.cells),.d (.bool true)]:=by rw [hp];rfl
    simp only [Zje];simp -implicitDefEqProofs only [go_sem,hw,hv,hv2,ZN.cells,GTxn.cells];repeat ((first|refine rq ?_|refine wl ?_|refine gl ?_|refine ZaF s hs (by simp -implicitDefEqProofs only [go_sem,ZN.cells_eq,hw];first|done|rfl) ?_|refine ZfA s.ZG.ZK.Zc s.ZG.Zy key (Zb4 hdk).1 (Zb4 hdk).2 (Zbk hdk) (by simp -implicitDefEqProofs only [go_sem,ZT.cells_eq];first|done|rfl) ?_|refine ZhX s.ZG key hB hs.base hx.txs (by simp -implicitDefEqProofs only [go_sem,GTxn.cells_eq];first|done|rfl) ?_|fail);simp -implicitDefEqProofs only [go_sem,hw,hv,hv2,ZN.cells,GTxn.cells])
    try rfl
def Zip {ps:List ZR} {pg:List Int} {next:List ZR} {view:Int→List ZR} (s:ZN) (key:Key) (hi:Zap s ps pg next view):=kf (Zn7 s key hi)
end Go.Rx
