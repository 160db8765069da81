/-
  Part C3: lemmas on an evaluator over plain data of the model's code, plain laws on lists and numbers, or contracts of functions of the program; each lemma names its conditions.
-/
import Derived.Test.YtflimjgjgligeaaGreatSC2
import Derived.Test.YtflimjgjgligeaaGreatSB1
import Derived.Test.YtflimjgjgligeaaGreatSP5

set_option linter.unusedSimpArgs false
set_option linter.unusedVariables false
set_option maxRecDepth 100000
set_option maxHeartbeats 16000000
set_option linter.defProp false
namespace Go.Rx
open Go
attribute [local irreducible] Req Way WayG Sel Z2 ZQ Zaz cVC Zai ZaO
theorem Zxc {P:Program} {f:FuncId} {args outs:List V} {d:ZT} {y:D} (hc:ZQ P f args [] outs (.tup [.agg [.own 0 0 d.Zv.length,.own 1 0 d.Zm.length],.d y]) [(0,.arr 1 (strs d.Zv)),(1,.arr 2 (Zae d.Zm))]) (ho:(outs.all fun x=>match x with| .dead=>true|_=>false)=true):ZQ P f args [] outs (.tup [.d (.agg d.cells),.d y]) []:=
 ZnL (ls:=[0,1]) hc (by simp [ZbC,toDs,toD,cD,cDs,hget,ZT.cells,Zdz,ZfJ]) ho
theorem Ztv {d:ZT} {p:Int} {t:Key}:wrF d p t=⟨d.Zv,wrO d p t⟩:=by
 unfold wrF wrO;cases h:Zak d p t with
 |none=>rfl
 |some d'=>
  obtain ⟨_,h2,h3,_⟩:=Zcv h;cases d';simp only at h2 h3;simp [h2,h3]
theorem ZdG (d:ZT) (p:Int) (t:List UInt8) (hd:Zck d):ZQ Go.Proofs.Tryz.prog 112 [.d (.agg d.cells),.d (.int .i64 p),.d (.str t)] [] [.dead,.dead,.dead] (.tup [.d (.agg (wrF d p t).cells),.d (.bool (Zak d p t).isSome)]) []:=by
 rw [Ztv];exact Zxc (d:=⟨d.Zv,wrO d p t⟩) (ZiB d p t hd) rfl
@[go_sem] def hr92:ZW:=hh [[0],[1,2],[1,2,4,5],[2,4,5,6,7],[2,4],[2,6,7],[2,6],[2]]
@[go_sem] def hl92:ZW:=hh []
attribute [go_sem] Go.Proofs.Tryz.results92
theorem ZpU (d:ZT) (h1:d.Zv.length≤1048576) (h2:d.Zm.length≤1048576) (hsm:∀p,(ZU d p).length≤1048576):ZQ Go.Proofs.Tryz.prog 92 [.d (.agg d.cells)] [] [.dead] (Zhd (Zf7 d)) []:=by
 refine cofF Go.Proofs.Tryz.func92 hr92 hl92 ?_;have g0:=hsm 0;have g1:=hsm 1;simp -implicitDefEqProofs only [go_sem,ZT.cells];refine Zal d 0 (by omega) (by omega) rfl ?_;simp -implicitDefEqProofs only [go_sem];refine ZgI (ZU d 0) (by omega) rfl ?_;unfold Zf7;cases h0:ZaL (ZU d 0) with
 |none=>
  simp only [Zch,Zcg];simp -implicitDefEqProofs only [go_sem];refine Zal d 1 (by omega) (by omega) rfl ?_;simp -implicitDefEqProofs only [go_sem];refine ZgI (ZU d 1) (by omega) rfl ?_;cases h1:ZaL (ZU d 1) with
  |none=>
   simp only [Zch,Zcg];simp -implicitDefEqProofs only [go_sem];repeat ((first|refine rq ?_|refine wl ?_|refine gl ?_|fail);simp -implicitDefEqProofs only [go_sem])
   try rfl
  |some b=>
   simp only [Zch,Zcg];simp -implicitDefEqProofs only [go_sem,ZX.cells];repeat ((first|refine rq ?_|refine wl ?_|refine gl ?_|fail);simp -implicitDefEqProofs only [go_sem,ZX.cells])
   try rfl
 |some a=>
  simp only [Zch,Zcg];simp -implicitDefEqProofs only [go_sem];refine Zal d 1 (by omega) (by omega) rfl ?_;simp -implicitDefEqProofs only [go_sem];refine ZgI (ZU d 1) (by omega) rfl ?_;cases h1:ZaL (ZU d 1) with
  |none=>
   simp only [Zch,Zcg];simp -implicitDefEqProofs only [go_sem,ZX.cells];repeat ((first|refine rq ?_|refine wl ?_|refine gl ?_|fail);simp -implicitDefEqProofs only [go_sem,ZX.cells])
   try rfl
  |some b=>
   by_cases hx:b.ZF≤a.ZF
   ·have dx:=decide_eq_true hx;simp only [Zch,Zcg,if_pos hx];simp -implicitDefEqProofs only [go_sem,ZX.cells,dx];repeat ((first|refine rq ?_|refine wl ?_|refine gl ?_|fail);simp -implicitDefEqProofs only [go_sem,ZX.cells,dx])
    try rfl
   ·have dx:=decide_eq_false hx;simp only [Zch,Zcg,if_neg hx];simp -implicitDefEqProofs only [go_sem,ZX.cells,dx];repeat ((first|refine rq ?_|refine wl ?_|refine gl ?_|fail);simp -implicitDefEqProofs only [go_sem,ZX.cells,dx])
    try rfl
def Zo9 (d:ZT) (h1:d.Zv.length≤1048576) (h2:d.Zm.length≤1048576) (hsm:∀p,(ZU d p).length≤1048576):=kf (ZpU d h1 h2 hsm)
@[go_sem] def hr321:ZW:=hh [[0],[0],[],[]]
@[go_sem] def hl321:ZW:=hh []
attribute [go_sem] Go.Proofs.Tryz.results321
theorem ZpP (x:Int) (hx:0≤x):ZQ Go.Proofs.Tryz.prog 321 [.d (.int .i64 x)] [] [.dead] (.d (.int .i64 (x%2))) []:=by
 refine cof Go.Proofs.Tryz.func321 hr321 hl321 [false] ?_;have e:Int.tmod x 2=x%2:=Int.tmod_eq_emod_of_nonneg hx;by_cases h0:x%2=0
 ·have d0:=decide_eq_true h0;simp -implicitDefEqProofs only [go_sem,e,d0];repeat ((first|refine rq ?_|refine wl ?_|refine gl ?_|fail);simp -implicitDefEqProofs only [go_sem,e,d0])
  rw [h0]
 ·have d0:=decide_eq_false h0;have h1:x%2=1:=by omega
  simp -implicitDefEqProofs only [go_sem,e,d0];repeat ((first|refine rq ?_|refine wl ?_|refine gl ?_|fail);simp -implicitDefEqProofs only [go_sem,e,d0])
  rw [h1]
def ZjT (x:Int) (hx:0≤x):=kf (ZpP x hx)
@[go_sem] def hr32:ZW:=hh [[0],[0,2],[2],[0,2]]
@[go_sem] def hl32:ZW:=hh []
attribute [go_sem] Go.Proofs.Tryz.results32
theorem ZsT (n:Nat) (hn:4≤n∧n≤40):ZQ Go.Proofs.Tryz.prog 32 [.d (.int .i64 n)] [] [.dead] (.tup [.d (.agg (⟨List.replicate n [],[]⟩:ZT).cells),.d (.bool true)]) []:=by
 refine cofF Go.Proofs.Tryz.func32 hr32 hl32 ?_;have d1:decide (4≤(n:Int)∧(n:Int)≤40)=true:=decide_eq_true (by omega);simp -implicitDefEqProofs only [go_sem,d1];repeat ((first|refine rq ?_|refine wl ?_|refine gl ?_|refine Zbx _ _ _ rfl ?_|fail);simp -implicitDefEqProofs only [go_sem,d1])
 simp [ZT.cells,strs,Zae]
def Zsb (n:Nat) (hn:4≤n∧n≤40):=kf (ZsT n hn)
@[go_sem] def hr29:ZW:=hh [[0],[1,2],[1,2,4,5],[2],[1,2,4]]
@[go_sem] def hl29:ZW:=hh []
attribute [go_sem] Go.Proofs.Tryz.results29
theorem Zzs (d:ZT) (h1:d.Zv.length≤1048576) (h2:d.Zm.length≤1048576) (hsm:∀p,(ZU d p).length≤1048576):ZQ Go.Proofs.Tryz.prog 29 [.d (.agg d.cells)] [] [.dead] (Znc d) []:=by
 refine cofF Go.Proofs.Tryz.func29 hr29 hl29 ?_;unfold Znc ZrP;simp -implicitDefEqProofs only [go_sem,ZT.cells];refine Zo9 d h1 h2 hsm (by simp -implicitDefEqProofs only [go_sem,ZT.cells_eq];first|done|rfl) ?_;cases hb:Zf7 d with
 |none=>
  simp only [Zch,Zcg,Option.bind_none];simp -implicitDefEqProofs only [go_sem];repeat ((first|refine rq ?_|refine wl ?_|refine gl ?_|fail);simp -implicitDefEqProofs only [go_sem])
  try rfl
 |some m=>
  simp only [Zch,Zcg,Option.bind_some];by_cases hd:Za5 d
  ·have dd:=decide_eq_true hd;simp only [if_pos hd];simp -implicitDefEqProofs only [go_sem,ZX.cells,ZT.cells,dd];repeat ((first|refine rq ?_|refine wl ?_|refine gl ?_|refine Zhj d ⟨h1,h2⟩ (by simp -implicitDefEqProofs only [go_sem,ZT.cells_eq];first|done|rfl) ?_|refine Zd3 (xs:=[.agg d.cells]) (Zd9 d ⟨h1,h2⟩) (by simp -implicitDefEqProofs only [go_sem,ZT.cells_eq];first|done|rfl) rfl ?_|fail);simp -implicitDefEqProofs only [go_sem,ZX.cells,ZT.cells,dd])
   try rfl
  ·have dd:=decide_eq_false hd;simp only [if_neg hd];simp -implicitDefEqProofs only [go_sem,ZX.cells,ZT.cells,dd];repeat ((first|refine rq ?_|refine wl ?_|refine gl ?_|refine Zhj d ⟨h1,h2⟩ (by simp -implicitDefEqProofs only [go_sem,ZT.cells_eq];first|done|rfl) ?_|fail);simp -implicitDefEqProofs only [go_sem,ZX.cells,ZT.cells,dd])
   try rfl
def Zo7 (d:ZT) (h1:d.Zv.length≤1048576) (h2:d.Zm.length≤1048576) (hsm:∀p,(ZU d p).length≤1048576):=kf (Zzs d h1 h2 hsm)
@[go_sem] def hr60:ZW:=hh [[0],[0,2],[2,4,5],[2],[2,4],[2,4,6],[2,4]]
@[go_sem] def hl60:ZW:=hh []
attribute [go_sem] Go.Proofs.Tryz.results60
theorem ZvG (n:Nat) (hn:4≤n∧n≤40):ZQ Go.Proofs.Tryz.prog 60 [.d (.int .i64 n)] [] [.dead] (.tup [.d (.agg (fmtD n).cells),.d (.bool true)]) []:=by
 refine cofF Go.Proofs.Tryz.func60 hr60 hl60 ?_;simp -implicitDefEqProofs only [go_sem];refine Zsb n hn rfl ?_;simp -implicitDefEqProofs only [go_sem,ZT.cells];repeat ((first|refine rq ?_|refine wl ?_|refine gl ?_|refine ZbO Zes (ZaK Zmf) (by simp -implicitDefEqProofs only [go_sem,Zes,ZX.cells,Z9];first|done|rfl) ?_|fail);simp -implicitDefEqProofs only [go_sem,ZT.cells])
 rw [Zbo,Zlb];simp only [Option.getD_some,Option.isSome_some];have hs:Zck ⟨List.replicate n [],[]⟩:=by have:=ZnR hn;exact ⟨by have:=this.2.1;omega,by simp⟩
 have hw:=Zvh hn;simp -implicitDefEqProofs only [go_sem,ZT.cells];refine Zd3 (xs:=[.agg (⟨List.replicate n [],[]⟩:ZT).cells,.int .i64 0,.str (Zds Zes)]) (ZdG ⟨List.replicate n [],[]⟩ 0 (Zds Zes) hs) (by simp -implicitDefEqProofs only [go_sem,ZT.cells_eq];first|done|rfl) rfl ?_;rw [ZlR hw,hw];simp -implicitDefEqProofs only [go_sem,ZT.cells];repeat ((first|refine rq ?_|refine Zc4 (⟨List.replicate n [],[⟨0,Zds Zes⟩]⟩:ZT) ⟨hs.1,by simp⟩ (by simp -implicitDefEqProofs only [go_sem,ZT.cells];first|done|rfl) ?_|fail);simp -implicitDefEqProofs only [go_sem,ZT.cells])
 rw [Zwx hn.1];try rfl
def ZuS (n:Nat) (hn:4≤n∧n≤40):=kf (ZvG n hn)
@[go_sem] def hr316:ZW:=hh [[0,1,2],[1,2,3,6],[3,6],[1,2,3,6],[1,2,3,6,7],[1,2,3,6,7,8],[1,2,3,6,7,8],[1,2,3,6,7,8],[1,2,3,6,7,8],[1,2,3,6,7,8,9],[1,2,3,6,7,8,9],[1,2,3,6,7,8,9],[6,7]]
@[go_sem] def hl316:ZW:=hh [[],[],[],[],[],[1,2,3,6,7,8]]
attribute [go_sem] Go.Proofs.Tryz.results316
theorem ZpR (d:ZT) (hd:Za5 d) (left:List Bool) (hl:left.length≤1048576) (torn:Int):ZQ Go.Proofs.Tryz.prog 316 [.d (.agg d.cells),.d (.sl (bls left)),.d (.int .i64 torn)] [] [.dead,.dead,.dead] (.d (.agg (Zb9 d left torn).cells)) []:=by
 refine cofF Go.Proofs.Tryz.func316 hr316 hl316 ?_;have dd:=decide_eq_true hd;have hd':=hd;obtain ⟨g1,g2,g3,g4,g5⟩:=hd';simp -implicitDefEqProofs only [go_sem,ZT.cells];refine Zhj d ⟨by omega,by omega⟩ (by simp -implicitDefEqProofs only [go_sem,ZT.cells_eq];first|done|rfl) ?_;simp -implicitDefEqProofs only [go_sem,dd];repeat ((first|refine rq ?_|refine wl ?_|refine gl ?_|fail);simp -implicitDefEqProofs only [go_sem,dd])
 refine ZY (α:=Nat) (fun i=>⟨[(1,.d (.sl (bls left))),(2,.d (.int .i64 torn)),(3,.ref 0 0),(6,.ref 1 0),(7,.ref 4 0),(8,.d (.int .i64 i))],[(0,some (.box [.d (.sl (strs d.Zv)),.d (.sl (Zae d.Zm))])),(1,some (.box [.own 2 0 0,.own 3 0 0])),(2,some (.arr 1 [])),(3,some (.arr 2 [])),(4,some (.box [.own 5 0 d.Zv.length,.own 6 0 0])),(5,some (.arr 1 (strs (Zff d left torn i)))),(6,some (.arr 2 []))]⟩)
  (fun i=>i≤d.Zm.length) (fun i=>d.Zm.length - i) 0 rfl (Nat.zero_le _) ?_
 rintro i i1;have hlen:=Zsq (d:=d) (left:=left) (torn:=torn) (i:=i);simp -implicitDefEqProofs only [go_sem];refine fork (fun h5=>?_) (fun h5=>?_)
 ·obtain ⟨q,hq⟩:=Z3 h5;obtain ⟨q1,q2⟩:=g5 q (List.mem_of_getElem? hq);have hst:=Zpv (left:=left) (torn:=torn) hq;have hcast:((q.Zu.toNat:Nat):Int)=q.Zu:=by have:=q1.1;omega
  have hlt:q.Zu.toNat<(Zff d left torn i).length:=by have:=q1.1;have:=q1.2;omega
  obtain ⟨z,hz⟩:=Z3 (l:=Zff d left torn i) (i:=q.Zu.toNat) (by omega);have hi1:IntKind.i64.wrap ((i:Int)+1)=((i+1:Nat):Int):=ZV (by simp only [LEN];omega);by_cases hlf:left.length≤i
  ·have d1:decide ((left.length:Int)≤(i:Int))=true:=decide_eq_true (by omega);have:left.getD i false=false:=by rw [List.getD_eq_getElem?_getD,List.getElem?_eq_none hlf];rfl
   rw [if_neg (by rw [this];simp)] at hst;simp -implicitDefEqProofs only [go_sem,d1];repeat ((first|refine rq ?_|refine wl ?_|refine gl ?_|fail);simp -implicitDefEqProofs only [go_sem,d1])
   rw [hi1,←hst];exact ZP (i+1) rfl (by omega) (by omega)
  ·have d1:decide ((left.length:Int)≤(i:Int))=false:=decide_eq_false (by omega);obtain ⟨b,hb⟩:=Z3 (l:=left) (i:=i) (by omega);have hgb:left.getD i false=b:=by rw [List.getD_eq_getElem?_getD,hb];rfl
   rw [hgb] at hst;cases b with
   |false=>
    rw [if_neg (by simp)] at hst;simp -implicitDefEqProofs only [go_sem,d1,ZfX hb];repeat ((first|refine rq ?_|refine wl ?_|refine gl ?_|fail);simp -implicitDefEqProofs only [go_sem,d1,ZfX hb])
    rw [hi1,←hst];exact ZP (i+1) rfl (by omega) (by omega)
   |true=>
    rw [if_pos rfl] at hst;by_cases ht:(i:Int)=torn
    ·have dt:=decide_eq_true ht;rw [dt] at hst;have e2:IntKind.i64.wrap (Int.tdiv (q.ZC.length:Int) 2)=((q.ZC.length / 2:Nat):Int):=by rw [Int.tdiv_eq_ediv_of_nonneg (by omega),Zad (by omega) (by omega)];omega
     have e3:Zjg q.ZC true=q.ZC.take (q.ZC.length / 2):=by simp [Zjg]
     rw [e3] at hst;simp -implicitDefEqProofs only [go_sem,d1,ZfX hb,ZaY hq,dt,e2,ZM hz,ZfP];repeat ((first|refine rq ?_|refine wl ?_|refine gl ?_|fail);simp -implicitDefEqProofs only [go_sem,d1,ZfX hb,ZaY hq,dt,e2,ZM hz,ZfP])
     rw [hi1,←hst];exact ZP (i+1) rfl (by omega) (by omega)
    ·have dt:=decide_eq_false ht;rw [dt] at hst;have e3:Zjg q.ZC false=q.ZC:=by simp [Zjg]
     rw [e3] at hst;simp -implicitDefEqProofs only [go_sem,d1,ZfX hb,ZaY hq,dt,ZM hz,ZfP];repeat ((first|refine rq ?_|refine wl ?_|refine gl ?_|fail);simp -implicitDefEqProofs only [go_sem,d1,ZfX hb,ZaY hq,dt,ZM hz,ZfP])
     rw [hi1,←hst];exact ZP (i+1) rfl (by omega) (by omega)
 ·have hall:=Zsr (left:=left) (torn:=torn) hd (i:=i) (by omega);rw [hall];have ht:(strs (Zff d left torn i)).take d.Zv.length=strs (Zff d left torn i):=by rw [←hlen,Zdz]
  simp -implicitDefEqProofs only [go_sem,ht,ZT.cells];repeat ((first|refine rq ?_|refine wl ?_|refine gl ?_|fail);simp -implicitDefEqProofs only [go_sem,ht,ZT.cells])
  try rfl
def Zct (d:ZT) (hd:Za5 d) (left:List Bool) (hl:left.length≤1048576) (torn:Int):=kf (ZpR d hd left hl torn)
end Go.Rx
