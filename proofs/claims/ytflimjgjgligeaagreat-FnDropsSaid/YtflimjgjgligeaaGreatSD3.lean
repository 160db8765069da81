/-
  Part D3: lemmas on an evaluator over plain data of the model's code, plain laws on lists and numbers, or contracts of functions of the program; each lemma names its conditions.
-/
import Derived.Test.YtflimjgjgligeaaGreatSD1
import Derived.Test.YtflimjgjgligeaaGreatSP5

set_option linter.unusedSimpArgs false
set_option linter.unusedVariables false
set_option maxRecDepth 100000
set_option maxHeartbeats 16000000
set_option linter.defProp false
namespace Go.Rx
open Go
attribute [local irreducible] Req Way WayG Sel Z2 ZQ Zaz cVC Zai ZaO
@[go_sem] def hr295:ZW:=hh [[0,1],[1,2,4],[1,2,4,6],[4,6,7],[4,6],[4,6,7],[4,6]]
@[go_sem] def hl295:ZW:=hh []
attribute [go_sem] Go.Proofs.Tryz.results295
theorem ZsQ {ps:List ZR} {pg:List Int} {next:List ZR} {view:Int→List ZR} (s:ZN) (id:Int) (hi:Zap s ps pg next view):ZQ Go.Proofs.Tryz.prog 295 [.d (.agg s.cells),.d (.int .i64 id)] [] [.dead,.dead] (Zci (ZdF s id)) []:=by
 refine cofF Go.Proofs.Tryz.func295 hr295 hl295 ?_;have hs:=hi.small;have h3:=hi.few;unfold Zci ZdF;by_cases g1:idR s id<0
 ·have d1:=decide_eq_true g1;rw [if_pos g1];simp -implicitDefEqProofs only [go_sem,d1,ZN.cells];repeat ((first|refine rq ?_|refine wl ?_|refine gl ?_|refine ZaF s hs (by simp -implicitDefEqProofs only [go_sem,ZN.cells_eq];first|done|rfl) ?_|refine Zei s id hs.few (by simp -implicitDefEqProofs only [go_sem,ZN.cells_eq];first|done|rfl) ?_|fail);simp -implicitDefEqProofs only [go_sem,d1,ZN.cells])
  try rfl
 ·have d1:=decide_eq_false g1;rw [if_neg g1];obtain ⟨k,r,hk,hr,_⟩:=Zmi (show 0≤idR s id by omega);have hkl:=(List.getElem?_eq_some_iff.1 hr).1;rw [hk] at d1 ⊢;have hk1:IntKind.i64.wrap ((k:Int)+1)=((k+1:Nat):Int):=ZV (by simp only [LEN];omega);rw [Int.toNat_natCast];simp -implicitDefEqProofs only [go_sem,hk,d1,hk1,ZN.cells,ZdI,ZhH,ZiG];repeat ((first|refine rq ?_|refine wl ?_|refine gl ?_|refine ZaF s hs (by simp -implicitDefEqProofs only [go_sem,ZN.cells_eq];first|done|rfl) ?_|refine Zei s id hs.few (by simp -implicitDefEqProofs only [go_sem,ZN.cells_eq];first|done|rfl) ?_|fail);simp -implicitDefEqProofs only [go_sem,hk,d1,hk1,ZN.cells,ZdI,ZhH,ZiG])
  have hkk:min k s.Zx.length=k:=Nat.min_eq_left (by omega);simp only [List.take_length,List.length_take,List.length_drop,List.take_take,hkk,Nat.min_self];rw [List.take_of_length_le (by simp only [List.length_append,List.length_take,List.length_drop];omega)]
def Zsa {ps:List ZR} {pg:List Int} {next:List ZR} {view:Int→List ZR} (s:ZN) (id:Int) (hi:Zap s ps pg next view):=kf (ZsQ s id hi)
@[go_sem] def hr294:ZW:=hh [[0,1,2],[1,2,3],[2,3,8],[],[2,3,8],[9,10],[],[9]]
@[go_sem] def hl294:ZW:=hh []
attribute [go_sem] Go.Proofs.Tryz.results294
theorem Zoa {ps:List ZR} {pg:List Int} {next:List ZR} {view:Int→List ZR} (s:ZN) (id:Int) (key:Key) (hi:Zap s ps pg next view):ZQ Go.Proofs.Tryz.prog 294 [.d (.agg s.cells),.d (.int .i64 id),.d (.str key)] [] [.dead,.dead,.dead] (.tup [.d (.str (Zc0 s id key).1),.d (.int .i64 (Zc0 s id key).2)]) []:=by
 refine cofF Go.Proofs.Tryz.func294 hr294 hl294 ?_;have hs:=hi.small;unfold Zc0;by_cases g1:idR s id<0
 ·have d1:=decide_eq_true g1;rw [if_pos g1];simp -implicitDefEqProofs only [go_sem,d1,ZN.cells];repeat ((first|refine rq ?_|refine wl ?_|refine gl ?_|refine Zei s id hs.few (by simp -implicitDefEqProofs only [go_sem,ZN.cells_eq];first|done|rfl) ?_|fail);simp -implicitDefEqProofs only [go_sem,d1,ZN.cells])
  try rfl
 ·have d1:=decide_eq_false g1;rw [if_neg g1];obtain ⟨k,r,hk,hr,_⟩:=Zmi (show 0≤idR s id by omega);have hkl:=(List.getElem?_eq_some_iff.1 hr).1;rw [hk] at d1 ⊢;have hg:s.Zx.getD ((k:Int).toNat) Zaf.zero=r:=by rw [Int.toNat_natCast,List.getD_eq_getElem?_getD,hr];rfl
  rw [hg];cases hgk:getW s.Zc 8 r.Zp.Zy key with
  |none=>
   have hv:optV (getW s.Zc 8 r.Zp.Zy key)= .tup [.d (.str []),.d (.bool false)]:=by rw [hgk];rfl
   simp -implicitDefEqProofs only [go_sem,hk,d1,hv,Zag hr,ZN.cells];repeat ((first|refine rq ?_|refine wl ?_|refine gl ?_|refine Zei s id hs.few (by simp -implicitDefEqProofs only [go_sem,ZN.cells_eq];first|done|rfl) ?_|refine ZfA s.Zc r.Zp.Zy key hs.disk.1 hs.disk.2 hs.page (by simp -implicitDefEqProofs only [go_sem,ZT.cells_eq];first|done|rfl) ?_|fail);simp -implicitDefEqProofs only [go_sem,hk,d1,hv,Zag hr,ZN.cells])
   try rfl
  |some v=>
   have hv:optV (getW s.Zc 8 r.Zp.Zy key)= .tup [.d (.str v),.d (.bool true)]:=by rw [hgk];rfl
   simp -implicitDefEqProofs only [go_sem,hk,d1,hv,Zag hr,ZN.cells];repeat ((first|refine rq ?_|refine wl ?_|refine gl ?_|refine Zei s id hs.few (by simp -implicitDefEqProofs only [go_sem,ZN.cells_eq];first|done|rfl) ?_|refine ZfA s.Zc r.Zp.Zy key hs.disk.1 hs.disk.2 hs.page (by simp -implicitDefEqProofs only [go_sem,ZT.cells_eq];first|done|rfl) ?_|fail);simp -implicitDefEqProofs only [go_sem,hk,d1,hv,Zag hr,ZN.cells])
   try rfl
def Znu {ps:List ZR} {pg:List Int} {next:List ZR} {view:Int→List ZR} (s:ZN) (id:Int) (key:Key) (hi:Zap s ps pg next view):=kf (Zoa s id key hi)
@[go_sem] def hr287:ZW:=hh [[0],[1,2],[1,2,4],[2,4],[1,2,4],[2,4],[2,4],[2,4]]
@[go_sem] def hl287:ZW:=hh []
attribute [go_sem] Go.Proofs.Tryz.results287
theorem Zmr {ps:List ZR} {pg:List Int} {next:List ZR} {view:Int→List ZR} (s:ZN) (hi:Zap s ps pg next view):ZQ Go.Proofs.Tryz.prog 287 [.d (.agg s.cells)] [] [.dead] (Zci (Zb3 s)) []:=by
 refine cofF Go.Proofs.Tryz.func287 hr287 hl287 ?_;have hs:=hi.small;have hf:=Zjm hs;unfold Zci Zb3;cases hw:s.ZL
 ·rw [if_neg (by simp)];simp -implicitDefEqProofs only [go_sem,hw,ZN.cells,GTxn.cells];repeat ((first|refine rq ?_|refine wl ?_|refine gl ?_|refine ZaF s hs (by simp -implicitDefEqProofs only [go_sem,ZN.cells_eq,hw];first|done|rfl) ?_|refine ZjS s hs (by simp -implicitDefEqProofs only [go_sem,ZN.cells_eq,hw];first|done|rfl) ?_|refine ZqY s.Zc s.Zp (Zco s) hs.disk (ZaK hs.mt) hf (by simp -implicitDefEqProofs only [go_sem,ZT.cells_eq,ZX.cells_eq];first|done|rfl) ?_|fail);simp -implicitDefEqProofs only [go_sem,hw,ZN.cells,GTxn.cells])
  try rfl
 ·rw [if_pos rfl];simp -implicitDefEqProofs only [go_sem,hw,ZN.cells];repeat ((first|refine rq ?_|refine wl ?_|refine gl ?_|refine ZaF s hs (by simp -implicitDefEqProofs only [go_sem,ZN.cells_eq,hw];first|done|rfl) ?_|fail);simp -implicitDefEqProofs only [go_sem,hw,ZN.cells])
  try rfl
def Zhh {ps:List ZR} {pg:List Int} {next:List ZR} {view:Int→List ZR} (s:ZN) (hi:Zap s ps pg next view):=kf (Zmr s hi)
end Go.Rx
