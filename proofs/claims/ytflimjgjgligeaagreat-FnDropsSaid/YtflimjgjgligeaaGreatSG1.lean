/-
  Part G1: lemmas on an evaluator over plain data of the model's code, plain laws on lists and numbers, or contracts of functions of the program; each lemma names its conditions.
-/
import Derived.Test.YtflimjgjgligeaaGreatSF1
import Derived.Test.YtflimjgjgligeaaGreatSF2
import Derived.Test.YtflimjgjgligeaaGreatSF3
import Derived.Test.YtflimjgjgligeaaGreatSF4
import Derived.Test.YtflimjgjgligeaaGreatSC3
import Derived.Test.YtflimjgjgligeaaGreatSP5

set_option linter.unusedSimpArgs false
set_option linter.unusedVariables false
set_option maxRecDepth 100000
set_option maxHeartbeats 16000000
set_option linter.defProp false
namespace Go.Rx
open Go
attribute [local irreducible] Req Way WayG Sel Z2 ZQ Zaz cVC Zai ZaO
theorem Zzr {w:Zac} {e:Z6} {pg:List Int} {view:Int→List ZR} (hi:WInv w pg view) (hk:e.Zl=10) (hl:e.Zo.length≤1048576):DoC w e (doF w e):=by
 have hd:doF w e=(Zvn w e,0,[]):=by unfold doF;rw [if_neg (by omega),if_neg (by omega),if_neg (by omega),if_neg (by omega),if_neg (by omega),if_neg (by omega),if_neg (by omega),if_neg (by omega),if_neg (by omega),if_pos hk]
 rw [hd];unfold DoC doV;simp only;refine cof Go.Proofs.Tryz.func262 hr262 hl262 [true,false] ?_;simp -implicitDefEqProofs only [go_sem,ZZ,Z6.cells];simp -implicitDefEqProofs only [go_sem,ZZ,Z6.cells,hk];repeat ((first|refine rq ?_|refine wl ?_|refine gl ?_|refine Zbz false (xs:=[.agg e.cells]) (cells:=wdV w) rfl rfl rfl (by simp -implicitDefEqProofs only [go_sem,Z6.cells_eq,hk];first|done|rfl) rfl (ZsA hi hl) rfl rfl (.inr (.inl rfl)) ?_|fail);simp -implicitDefEqProofs only [go_sem,ZZ,Z6.cells,hk])
 try rfl
theorem cs_do {w:Zac} {e:Z6} {pg:List Int} {view:Int→List ZR} (hi:WInv w pg view) (hk:1≤e.Zl∧e.Zl≤10) (hl:e.Zo.length≤1048576):DoC w e (doF w e):=by
 have hc:e.Zl=1∨e.Zl=2∨e.Zl=3∨e.Zl=4∨e.Zl=5∨e.Zl=6∨e.Zl=7∨e.Zl=8∨e.Zl=9∨e.Zl=10:=by omega
 rcases hc with h|h|h|h|h|h|h|h|h|h
 ·exact cs_do1 hi h
 ·exact cs_do2 hi h
 ·exact cs_do3 hi h
 ·exact cs_do4 hi h
 ·exact cs_do5 hi h
 ·exact cs_do6 hi h
 ·exact cs_do7 hi h
 ·exact cs_do8 hi h
 ·exact cs_do9 hi h
 ·exact Zzr hi h hl
def ZyI (w:Zac):List V:=(wdV w).take 23++[.own 1 0 w.Zb.length,.own 2 0 w.ZD.length]
theorem ZoN {P:Program} {f:FuncId} {args:List V} {H:List (Nat×AObj)} {w:Zac} (hc:ZQ P f args H [.ref 0 0,.dead] (.tup []) [(0,.box (ZyI w)),(1,.arr 1 (ints w.Zb)),(2,.arr 1 (strs w.ZD))]):
  ZQ P f args H [.ref 0 0,.dead] (.tup []) [(0,.box (wdV w))]:=
 Zf4 (ls:=[1,2]) (ls':=[]) (ds:=Zac.cells w) hc rfl (by simp [ZyI,ZZ,toDs,toD,cD,hget,Zac.cells,Zby,Zdz]) rfl (by simp) rfl
theorem Zsy {w:Zac} {e:Z6} {pg:List Int} {view:Int→List ZR} (hi:WInv w pg view) (hk:1≤e.Zl∧e.Zl≤10) (hl:e.Zo.length≤1048576) (h1:w.Zb.length≤100000) (h2:w.ZD.length≤100000):
  ZQ Go.Proofs.Tryz.prog 221 [.ref 0 0,.d (.agg e.cells)] [(0,.box (wdV w))] [.ref 0 0,.dead] (.tup []) [(0,.box (wdV (Zl0 w e)))]:=by
 have hdo:=cs_do hi hk hl;obtain ⟨k1,k2⟩:= @Zxs w e;refine ZoN ?_;unfold ZyI Zl0;unfold DoC doV at hdo;generalize doF w e=r at hdo k1 k2 ⊢;obtain ⟨u,code,told⟩:=r;simp only at hdo k1 k2 ⊢;refine cof Go.Proofs.Tryz.func221 hr221 hl221 [true,false] ?_;simp -implicitDefEqProofs only [go_sem,ZZ,Z6.cells];refine Zbz false (xs:=[.agg e.cells]) (cells:=wdV w) rfl rfl rfl (by simp -implicitDefEqProofs only [go_sem,Z6.cells_eq];first|done|rfl) rfl hdo rfl rfl (.inr (.inl rfl)) ?_;simp -implicitDefEqProofs only [go_sem,ZZ,k1,k2];repeat ((first|refine rq ?_|refine wl ?_|refine gl ?_|fail);simp -implicitDefEqProofs only [go_sem,ZZ,k1,k2])
 simp [ints,strs]
@[go_sem] def hr220:ZW:=hh [[0],[0,2],[2,4,5],[2],[2,4],[2,6,7]]
@[go_sem] def hl220:ZW:=hh []
attribute [go_sem] Go.Proofs.Tryz.results220
theorem Zvu (n:Nat) (hn:4≤n∧n≤40):ZQ Go.Proofs.Tryz.prog 220 [.d (.int .i64 n)] [] [.dead] (.tup [.d (.agg (newW n).cells),.d (.bool true)]) []:=by
 refine cofF Go.Proofs.Tryz.func220 hr220 hl220 ?_;have hf:=Zvi hn;have hsd:=Zb4 hf.disk;have hov:Znc (fmtD n)= .tup [.d (.agg (Zdr (fmtD n) Zes).cells),.d (.bool true)]:=by rw [Znc,ZfV hf];rfl
 simp -implicitDefEqProofs only [go_sem];simp -implicitDefEqProofs only [go_sem,hov,ZT.cells,Zdr,ZN.cells,GTxn.zero,ZX.zero,ZS.zero,ZT.zero];repeat ((first|refine rq ?_|refine wl ?_|refine gl ?_|refine ZuS n hn (by simp -implicitDefEqProofs only [go_sem];first|done|rfl) ?_|refine Zo7 (fmtD n) hsd.1 hsd.2 (Zbk hf.disk) (by simp -implicitDefEqProofs only [go_sem,ZT.cells_eq];first|done|rfl) ?_|fail);simp -implicitDefEqProofs only [go_sem,hov,ZT.cells,Zdr,ZN.cells,GTxn.zero,ZX.zero,ZS.zero,ZT.zero])
 try rfl
def ZuO (n:Nat) (hn:4≤n∧n≤40):=kf (Zvu n hn)
end Go.Rx
