/-
  Part F3: lemmas on an evaluator over plain data of the model's code, plain laws on lists and numbers, or contracts of functions of the program; each lemma names its conditions.
-/
import Derived.Test.YtflimjgjgligeaaGreatSD6
import Derived.Test.YtflimjgjgligeaaGreatSD2
import Derived.Test.YtflimjgjgligeaaGreatSD1

set_option linter.unusedSimpArgs false
set_option linter.unusedVariables false
set_option maxRecDepth 100000
set_option maxHeartbeats 16000000
namespace Go.Rx
open Go
attribute [local irreducible] Req Way WayG Sel Z2 ZQ Zaz cVC Zai ZaO
def ZrJ (w:Zac) (n:Nat):List V:=(wdV w).take 22++ .own 1 0 n::(wdV w).drop 23
theorem cs_do6 {w:Zac} {e:Z6} {pg:List Int} {view:Int→List ZR} (hi:WInv w pg view) (hk:e.Zl=6):DoC w e (doF w e):=by
 have hd:doF w e=setW w (ZcY w.ZB e.Zh) fun w=> {w with Zz:=w.Zz++[⟨e.Zh,w.Zq⟩]}:=by unfold doF;rw [if_neg (by omega),if_neg (by omega),if_neg (by omega),if_neg (by omega),if_neg (by omega),if_pos hk]
 have hml:=hi.model_len;have hsf:=hi.seens_few;rcases hr:ZcY w.ZB e.Zh with ⟨s',c⟩
 have hv:Zci (ZcY w.ZB e.Zh)= .tup [.d (.agg s'.cells),.d (.int .i64 c)]:=by rw [hr];rfl
 rw [hd,hr];unfold setW DoC doV;simp only;by_cases hc:c=0
 ·have dc:=decide_eq_true hc;rw [if_pos hc];refine Zf4 (H':=[(0,.box (ZrJ {w with ZB:=s'} (w.Zz.length+1))),(1,.arr 2 (Zbh (w.Zz++[⟨e.Zh,w.Zq⟩])))]) (res:= .tup [.d (.int .i64 c),.d (.str [])]) (ls:=[1]) (ls':=[]) (ds:=Zac.cells {w with ZB:=s',Zz:=w.Zz++[⟨e.Zh,w.Zq⟩]}) ?_ rfl ?_ rfl (by simp) rfl
  ·unfold ZrJ;refine cof Go.Proofs.Tryz.func262 hr262 hl262 [true,false] ?_;simp -implicitDefEqProofs only [go_sem,ZZ,Z6.cells,hk];simp -implicitDefEqProofs only [go_sem,ZZ,Z6.cells,hk,hv,dc,ZN.cells,ZbV.cells];repeat ((first|refine rq ?_|refine wl ?_|refine gl ?_|refine Ziq w.ZB e.Zh hi.store (by simp -implicitDefEqProofs only [go_sem,ZN.cells_eq];first|done|rfl) ?_|refine Zd2 w.Zq (by omega) rfl ?_|fail);simp -implicitDefEqProofs only [go_sem,ZZ,Z6.cells,hk,hv,dc,ZN.cells,ZbV.cells])
   try rfl
  ·simp [ZrJ,ZZ,toDs,toD,cD,hget,Zac.cells,Zks]
 ·have dc:=decide_eq_false hc;rw [if_neg hc];refine cof Go.Proofs.Tryz.func262 hr262 hl262 [true,false] ?_;simp -implicitDefEqProofs only [go_sem,ZZ,Z6.cells,hk];simp -implicitDefEqProofs only [go_sem,ZZ,Z6.cells,hk,hv,dc,ZN.cells];repeat ((first|refine rq ?_|refine wl ?_|refine gl ?_|refine Ziq w.ZB e.Zh hi.store (by simp -implicitDefEqProofs only [go_sem,ZN.cells_eq];first|done|rfl) ?_|fail);simp -implicitDefEqProofs only [go_sem,ZZ,Z6.cells,hk,hv,dc,ZN.cells])
  try rfl
theorem cs_do9 {w:Zac} {e:Z6} {pg:List Int} {view:Int→List ZR} (hi:WInv w pg view) (hk:e.Zl=9):DoC w e (doF w e):=by
 have hd:doF w e=setW w (ZoX w.ZB) id:=by unfold doF;rw [if_neg (by omega),if_neg (by omega),if_neg (by omega),if_neg (by omega),if_neg (by omega),if_neg (by omega),if_neg (by omega),if_neg (by omega),if_pos hk]
 have hs:=hi.store.small;rw [hd];cases hw:w.ZB.ZL
 ·have hpk:ZoX w.ZB=(w.ZB,2):=by unfold ZoX;rw [if_pos hw]
  rw [hpk];unfold setW DoC doV;simp only;rw [if_neg (by decide)];refine cof Go.Proofs.Tryz.func262 hr262 hl262 [true,false] ?_;simp -implicitDefEqProofs only [go_sem,ZZ,Z6.cells,hk];simp -implicitDefEqProofs only [go_sem,ZZ,Z6.cells,hk,hw,ZN.cells];repeat ((first|refine rq ?_|refine wl ?_|refine gl ?_|fail);simp -implicitDefEqProofs only [go_sem,ZZ,Z6.cells,hk,hw,ZN.cells])
  try rfl
 ·have hpk:ZoX w.ZB=Zje w.ZB (Zmb w.ZB.ZG):=by unfold ZoX;rw [if_neg (by rw [hw];simp)]
  rw [hpk];obtain ⟨o,pgn,_,_,hx⟩:=hi.store.txn hw;have hB:=hi.store.disk.pages_len;cases hp:Zmb w.ZB.ZG with
  |none=>
   have hv:txnV (Zmb w.ZB.ZG) w.ZB.ZG= .tup [.d (.agg w.ZB.ZG.cells),.d (.bool false)]:=by rw [hp];rfl
   have hset:setW w (Zje w.ZB none) id=({w with ZB:= {w.ZB with Zd:=true}},3,[]):=rfl;rw [hset];unfold DoC doV;simp only;refine cof Go.Proofs.Tryz.func262 hr262 hl262 [true,false] ?_;simp -implicitDefEqProofs only [go_sem,ZZ,Z6.cells,hk];simp -implicitDefEqProofs only [go_sem,ZZ,Z6.cells,hk,hw,hv,ZN.cells,GTxn.cells];repeat ((first|refine rq ?_|refine wl ?_|refine gl ?_|refine Zlm w.ZB.ZG hx hB hs.base (by simp -implicitDefEqProofs only [go_sem,GTxn.cells_eq];first|done|rfl) ?_|refine ZaF w.ZB hs (by simp -implicitDefEqProofs only [go_sem,ZN.cells_eq,hw];first|done|rfl) ?_|fail);simp -implicitDefEqProofs only [go_sem,ZZ,Z6.cells,hk,hw,hv,ZN.cells,GTxn.cells])
   try rfl
  |some t=>
   have hv:txnV (Zmb w.ZB.ZG) w.ZB.ZG= .tup [.d (.agg t.cells),.d (.bool true)]:=by rw [hp];rfl
   have hset:setW w (Zje w.ZB (some t)) id=({w with ZB:= {w.ZB with ZG:=t}},0,[]):=rfl;rw [hset];unfold DoC doV;simp only;refine cof Go.Proofs.Tryz.func262 hr262 hl262 [true,false] ?_;simp -implicitDefEqProofs only [go_sem,ZZ,Z6.cells,hk];simp -implicitDefEqProofs only [go_sem,ZZ,Z6.cells,hk,hw,hv,ZN.cells,GTxn.cells];repeat ((first|refine rq ?_|refine wl ?_|refine gl ?_|refine Zlm w.ZB.ZG hx hB hs.base (by simp -implicitDefEqProofs only [go_sem,GTxn.cells_eq];first|done|rfl) ?_|refine ZaF w.ZB hs (by simp -implicitDefEqProofs only [go_sem,ZN.cells_eq,hw];first|done|rfl) ?_|fail);simp -implicitDefEqProofs only [go_sem,ZZ,Z6.cells,hk,hw,hv,ZN.cells,GTxn.cells])
   try rfl
end Go.Rx
