/-
  Part F4: lemmas on an evaluator over plain data of the model's code, plain laws on lists and numbers, or contracts of functions of the program; each lemma names its conditions.
-/
import Derived.Test.YtflimjgjgligeaaGreatSD6
import Derived.Test.YtflimjgjgligeaaGreatSC5
import Derived.Test.YtflimjgjgligeaaGreatSC3
import Derived.Test.YtflimjgjgligeaaGreatSA4
import Derived.Test.YtflimjgjgligeaaGreatSF3
import Derived.Test.YtflimjgjgligeaaGreatSD3

set_option linter.unusedSimpArgs false
set_option linter.unusedVariables false
set_option maxRecDepth 100000
set_option maxHeartbeats 16000000
namespace Go.Rx
open Go
attribute [local irreducible] Req Way WayG Sel Z2 ZQ Zaz cVC Zai ZaO
def Zxo (w:Zac):List V:=(wdV w).take 21++ .own 1 0 0:: .own 2 0 0::(wdV w).drop 23
theorem Zj5 {P:Program} {f:FuncId} {args:List V} {H:List (Nat×AObj)} {w:Zac} (hc:ZQ P f args H [.ref 0 0,.dead] (.tup []) [(0,.box (Zxo w)),(1,.arr 2 []),(2,.arr 2 [])]) (h1:w.Zs=[]) (h2:w.Zz=[]):
  ZQ P f args H [.ref 0 0,.dead] (.tup []) [(0,.box (wdV w))]:=
 Zf4 (ls:=[1,2]) (ls':=[]) (ds:=Zac.cells w) hc rfl (by simp [Zxo,ZZ,toDs,toD,cD,hget,Zac.cells,h1,h2,Zaj,Zbh]) rfl (by simp) rfl
theorem ZsA {w:Zac} {e:Z6} {pg:List Int} {view:Int→List ZR} (hi:WInv w pg view) (hl:e.Zo.length≤1048576):
  ZQ Go.Proofs.Tryz.prog 298 [.ref 0 0,.d (.agg e.cells)] [(0,.box (wdV w))] [.ref 0 0,.dead] (.tup []) [(0,.box (wdV (Zvn w e)))]:=by
 have hs:=hi.store.small;have key:∃m ps pg',ZaX (if w.ZB.ZL=true then cutD w.ZB.ZG e.ZA e.Zo e.ZE else Zb9 w.ZB.Zc e.Zo e.ZE) m ps pg':=by
  by_cases hw:w.ZB.ZL=true
  ·rw [if_pos hw];obtain ⟨o,pgn,g1,g2,g3⟩:=hi.store.txn hw;rcases (Zvs (stage:=e.ZA) (left:=e.Zo) (torn:=e.ZE) hi.store.disk g3).2 with h4|⟨_,_,h4⟩
   ·exact ⟨_,_,_,h4⟩
   ·exact ⟨_,_,_,h4⟩
  ·rw [if_neg hw];exact ⟨_,_,_,Zrh hi.store.disk⟩
 unfold Zvn;obtain ⟨m,ps,pg',hd⟩:=key;have hsd:=Zb4 hd.disk;have hrp:=Zbk hd.disk;cases hw:w.ZB.ZL
 ·rw [hw] at hd hsd hrp;simp only [Bool.false_eq_true,if_false] at hd hsd hrp ⊢;have hov:Znc (Zb9 w.ZB.Zc e.Zo e.ZE)= .tup [.d (.agg (Zdr (Zb9 w.ZB.Zc e.Zo e.ZE) m).cells),.d (.bool true)]:=by rw [Znc,ZfV hd];rfl
  have hpv:ZqM (Zeo (Zb9 w.ZB.Zc e.Zo e.ZE) m.Zy)= .tup [.d (.sl (Zaj ps)),.d (.bool true)]:=by rw [ZgV hd.tree];rfl
  have hal:allS (Zdr (Zb9 w.ZB.Zc e.Zo e.ZE) m).Zc (Zdr (Zb9 w.ZB.Zc e.Zo e.ZE) m).Zp.Zy=ps:=Zp5 hd.tree;rw [ZfV hd,Option.getD_some,hal];refine Zj5 ?_ rfl rfl;unfold Zxo;refine cof Go.Proofs.Tryz.func298 hr298 hl298 [true,false] ?_;simp -implicitDefEqProofs only [go_sem,ZZ,Z6.cells];simp -implicitDefEqProofs only [go_sem,ZZ,Z6.cells,hw,hov,hpv,Zdr,ZN.cells,GTxn.zero,ZX.zero,ZS.zero,ZT.zero,ZT.cells];repeat ((first|refine rq ?_|refine wl ?_|refine gl ?_|refine Zct w.ZB.Zc hi.store.disk.disk e.Zo hl e.ZE (by simp -implicitDefEqProofs only [go_sem,ZT.cells_eq];first|done|rfl) ?_|refine Zo7 (Zb9 w.ZB.Zc e.Zo e.ZE) hsd.1 hsd.2 hrp (by simp -implicitDefEqProofs only [go_sem,ZT.cells_eq];first|done|rfl) ?_|refine ZgK (Zb9 w.ZB.Zc e.Zo e.ZE) m.Zy hsd.1 hsd.2 hrp (by simp -implicitDefEqProofs only [go_sem,ZT.cells_eq];first|done|rfl) ?_|fail);simp -implicitDefEqProofs only [go_sem,ZZ,Z6.cells,hw,hov,hpv,Zdr,ZN.cells,GTxn.zero,ZX.zero,ZS.zero,ZT.zero,ZT.cells])
  try rfl
 ·rw [hw] at hd hsd hrp;simp only [if_true] at hd hsd hrp ⊢;obtain ⟨o,pgn,_,_,hx⟩:=hi.store.txn hw;obtain ⟨b1,b3,b4⟩:=ZkQ hi.store.disk hx;have hov:Znc (cutD w.ZB.ZG e.ZA e.Zo e.ZE)= .tup [.d (.agg (Zdr (cutD w.ZB.ZG e.ZA e.Zo e.ZE) m).cells),.d (.bool true)]:=by rw [Znc,ZfV hd];rfl
  have hpv:ZqM (Zeo (cutD w.ZB.ZG e.ZA e.Zo e.ZE) m.Zy)= .tup [.d (.sl (Zaj ps)),.d (.bool true)]:=by rw [ZgV hd.tree];rfl
  have hal:allS (Zdr (cutD w.ZB.ZG e.ZA e.Zo e.ZE) m).Zc (Zdr (cutD w.ZB.ZG e.ZA e.Zo e.ZE) m).Zp.Zy=ps:=Zp5 hd.tree;rw [ZfV hd,Option.getD_some,hal];refine Zj5 ?_ rfl rfl;unfold Zxo;refine cof Go.Proofs.Tryz.func298 hr298 hl298 [true,false] ?_;simp -implicitDefEqProofs only [go_sem,ZZ,Z6.cells];simp -implicitDefEqProofs only [go_sem,ZZ,Z6.cells,hw,hov,hpv,Zdr,ZN.cells,GTxn.zero,ZX.zero,ZS.zero,ZT.zero,ZT.cells];repeat ((first|refine rq ?_|refine wl ?_|refine gl ?_|refine Zny w.ZB.ZG e.ZA e.Zo e.ZE b1 hs.work b3 b4 hx.txs.ok.disk hl (by simp -implicitDefEqProofs only [go_sem,GTxn.cells_eq];first|done|rfl) ?_|refine Zo7 (cutD w.ZB.ZG e.ZA e.Zo e.ZE) hsd.1 hsd.2 hrp (by simp -implicitDefEqProofs only [go_sem,ZT.cells_eq];first|done|rfl) ?_|refine ZgK (cutD w.ZB.ZG e.ZA e.Zo e.ZE) m.Zy hsd.1 hsd.2 hrp (by simp -implicitDefEqProofs only [go_sem,ZT.cells_eq];first|done|rfl) ?_|fail);simp -implicitDefEqProofs only [go_sem,ZZ,Z6.cells,hw,hov,hpv,Zdr,ZN.cells,GTxn.zero,ZX.zero,ZS.zero,ZT.zero,ZT.cells])
  try rfl
def Zg4 (w:Zac) (id:Int) (i:Nat):List ZbV:=(w.Zz.take i).filter fun s=> !decide (s.Zh=id)
theorem ZoT {w:Zac} {id:Int} {i:Nat} {p:ZbV} (h:w.Zz[i]? =some p):Zg4 w id (i+1)=Zg4 w id i++(if p.Zh=id then [] else [p]):=by
 unfold Zg4;rw [Z7 h,List.filter_append];by_cases e:p.Zh=id<;>simp [e]
theorem ZrK {w:Zac} {id:Int} {i:Nat}:(Zg4 w id i).length≤min i w.Zz.length:=by
 have:=List.length_filter_le (fun s:ZbV=> !decide (s.Zh=id)) (w.Zz.take i);simpa [Zg4] using this
theorem cs_do8 {w:Zac} {e:Z6} {pg:List Int} {view:Int→List ZR} (hi:WInv w pg view) (hk:e.Zl=8):DoC w e (doF w e):=by
 have hd:doF w e=({w with ZB:=(ZdF w.ZB e.Zh).1,Zz:=w.Zz.filter fun s=> !decide (s.Zh=e.Zh)},(ZdF w.ZB e.Zh).2,[]):=by unfold doF;rw [if_neg (by omega),if_neg (by omega),if_neg (by omega),if_neg (by omega),if_neg (by omega),if_neg (by omega),if_neg (by omega),if_pos hk]
 have hsf:=hi.seens_few;rcases hr:ZdF w.ZB e.Zh with ⟨s',c⟩
 have hv:Zci (ZdF w.ZB e.Zh)= .tup [.d (.agg s'.cells),.d (.int .i64 c)]:=by rw [hr];rfl
 rw [hd,hr];unfold DoC doV;simp only;refine Zf4 (H':=[(0,.box (ZrJ {w with ZB:=s'} (w.Zz.filter fun s=> !decide (s.Zh=e.Zh)).length)),(1,.arr 2 (Zbh (w.Zz.filter fun s=> !decide (s.Zh=e.Zh))))]) (res:= .tup [.d (.int .i64 c),.d (.str [])]) (ls:=[1]) (ls':=[]) (ds:=Zac.cells {w with ZB:=s',Zz:=w.Zz.filter fun s=> !decide (s.Zh=e.Zh)}) ?_ rfl ?_ rfl (by simp) rfl
 ·unfold ZrJ;refine cof Go.Proofs.Tryz.func262 hr262 hl262 [true,false] ?_;simp -implicitDefEqProofs only [go_sem,ZZ,Z6.cells,hk];simp -implicitDefEqProofs only [go_sem,ZZ,Z6.cells,hk,hv,ZN.cells];repeat ((first|refine rq ?_|refine wl ?_|refine gl ?_|refine Zsa w.ZB e.Zh hi.store (by simp -implicitDefEqProofs only [go_sem,ZN.cells_eq];first|done|rfl) ?_|fail);simp -implicitDefEqProofs only [go_sem,ZZ,Z6.cells,hk,hv,ZN.cells])
  refine ZY (α:=Nat) (fun i=>⟨[(0,.ref 0 0),(3,.ref 1 0),(7,.d (.int .i64 c)),(10,.own 2 0 (Zg4 w e.Zh i).length),(11,.d (.int .i64 i))],[(0,some (.box [.d (.sl (strs s'.Zc.Zv)),.d (.sl (Zae s'.Zc.Zm)),.d (.int .i64 s'.Zp.ZF),.d (.int .i64 s'.Zp.Zy),.d (.int .i64 s'.Zp.Zs),.d (.sl (Z9 s'.Zp.Ze)),.d (.sl (Zaa s'.Zx)),.d (.int .i64 s'.ZG.Za.ZF),.d (.int .i64 s'.ZG.Za.Zy),.d (.int .i64 s'.ZG.Za.Zs),.d (.sl (Z9 s'.ZG.Za.Ze)),.d (.sl (strs s'.ZG.ZK.Zc.Zv)),.d (.sl (Zae s'.ZG.ZK.Zc.Zm)),.d (.int .i64 s'.ZG.ZK.Zs),.d (.sl (ints s'.ZG.ZK.ZH)),.d (.sl (ints s'.ZG.ZK.Zg)),.d (.sl (ints s'.ZG.ZK.Zf)),.d (.int .i64 s'.ZG.Zy),.d (.bool s'.ZL),.d (.bool s'.Zd),.d (.sl (Zaj w.Zq)),.d (.sl (Zaj w.Zs)),.d (.sl (Zbh w.Zz)),.d (.sl (ints w.Zb)),.d (.sl (strs w.ZD))])),(1,some (.box [.d (.int .i64 8),.d (.int .i64 e.Zh),.d (.str e.Zi),.d (.str e.ZI),.d (.int .i64 e.ZA),.d (.sl (bls e.Zo)),.d (.int .i64 e.ZE)])),(2,some (.arr 2 (Zbh (Zg4 w e.Zh i))))]⟩)
   (fun i=>i≤w.Zz.length) (fun i=>w.Zz.length - i) 0 rfl (Nat.zero_le _) ?_
  rintro i i1;have hsl:= @ZrK w e.Zh i;have hi1:IntKind.i64.wrap ((i:Int)+1)=((i+1:Nat):Int):=ZV (by simp only [LEN];omega);simp -implicitDefEqProofs only [go_sem];refine fork (fun h5=>?_) (fun h5=>?_)
  ·obtain ⟨p,hp⟩:=Z3 h5;have hst:=ZoT (id:=e.Zh) hp;by_cases hx:p.Zh=e.Zh
   ·have dx:=decide_eq_true hx;rw [if_pos hx,List.append_nil] at hst;simp -implicitDefEqProofs only [go_sem,Zbc hp,dx];repeat ((first|refine rq ?_|refine wl ?_|refine gl ?_|fail);simp -implicitDefEqProofs only [go_sem,Zbc hp,dx])
    rw [hi1,←hst];exact ZP (i+1) rfl (by omega) (by omega)
   ·have dx:=decide_eq_false hx;rw [if_neg hx] at hst;simp -implicitDefEqProofs only [go_sem,Zbc hp,dx];repeat ((first|refine rq ?_|refine wl ?_|refine gl ?_|fail);simp -implicitDefEqProofs only [go_sem,Zbc hp,dx])
    rw [hi1];refine ZP (i+1) ?_ (by omega) (by omega);simp [hst,Zbh,ZbV.cells]
  ·have hall:Zg4 w e.Zh i=w.Zz.filter fun s=> !decide (s.Zh=e.Zh):=by rw [Zg4,List.take_of_length_le (by omega)]
   rw [hall];simp -implicitDefEqProofs only [go_sem,ZZ];repeat ((first|refine rq ?_|refine wl ?_|refine gl ?_|fail);simp -implicitDefEqProofs only [go_sem,ZZ])
   try rfl
 ·simp [ZrJ,ZZ,toDs,toD,cD,hget,Zac.cells,ZlN]
end Go.Rx
