/-
  Part D6: lemmas on an evaluator over plain data of the model's code, plain laws on lists and numbers, or contracts of functions of the program; each lemma names its conditions.
-/
import Derived.Test.YtflimjgjgligeaaGreatSC4
import Derived.Test.YtflimjgjgligeaaGreatSA7
import Derived.Test.YtflimjgjgligeaaGreatSP5
import Derived.Test.YtflimjgjgligeaaGreatSB1

set_option linter.unusedSimpArgs false
set_option linter.unusedVariables false
set_option maxRecDepth 100000
set_option maxHeartbeats 16000000
set_option linter.defProp false
namespace Go.Rx
open Go
attribute [local irreducible] Req Way WayG Sel Z2 ZQ Zaz cVC Zai ZaO
@[go_sem] def hr142:ZW:=hh [[0,1],[1,2],[6],[],[6]]
@[go_sem] def hl142:ZW:=hh []
attribute [go_sem] Go.Proofs.Tryz.results142
theorem ZsO (d:ZT) (root:Int) (h1:d.Zv.length≤1048576) (h2:d.Zm.length≤1048576) (hsm:∀p,(ZU d p).length≤1048576):ZQ Go.Proofs.Tryz.prog 142 [.d (.agg d.cells),.d (.int .i64 root)] [] [.dead,.dead] (ZqN d root) []:=by
 refine cofF Go.Proofs.Tryz.func142 hr142 hl142 ?_;have hl:= @ZuH d root;unfold ZqN;simp -implicitDefEqProofs only [go_sem,ZT.cells];refine ZcM (xs:=[.agg d.cells,.int .i64 root]) rfl (Zvt d root h1 h2 hsm) rfl (.inl rfl) ?_;cases hb:(Zc1 d root).bad
 ·have hss:(ints (ZaP (Zc1 d root).pages)).take (Zc1 d root).pages.length=ints (ZaP (Zc1 d root).pages):=List.take_of_length_le (by simp [ints,Zbw]);rw [if_neg (by simp)];simp -implicitDefEqProofs only [go_sem,ZaI,hb,hss];repeat ((first|refine rq ?_|refine wl ?_|refine gl ?_|refine Zhi (Zc1 d root).pages (by omega) (by simp -implicitDefEqProofs only [go_sem,Zby];first|done|rfl) ?_|fail);simp -implicitDefEqProofs only [go_sem,ZaI,hb,hss])
  try rfl
 ·rw [if_pos rfl];simp -implicitDefEqProofs only [go_sem,ZaI,hb];repeat ((first|refine rq ?_|refine wl ?_|refine gl ?_|fail);simp -implicitDefEqProofs only [go_sem,ZaI,hb])
  try rfl
def Zr9 (d:ZT) (root:Int) (h1:d.Zv.length≤1048576) (h2:d.Zm.length≤1048576) (hsm:∀p,(ZU d p).length≤1048576):=kf (ZsO d root h1 h2 hsm)
@[go_sem] def hr296:ZW:=hh [[0],[1,2],[1,2,4],[1,2,4,5,6],[1,2,4,5,6,7,8],[2,4],[1,2,4,5,7],[1,2,4,7,9,10,11],[2,4],[1,2,7,9,10],[1,2,7,9,10,12],[1,2,7,9,10,12],[1,2,7,9,10,12],[1,2,9,10]]
@[go_sem] def hl296:ZW:=hh [[],[],[],[],[],[],[],[],[],[],[1,2,7,9,10,12]]
attribute [go_sem] Go.Proofs.Tryz.results296
theorem ZsP {d0:ZT} {m:ZX} {oldest:Int} {pg0 pg:List Int} {ps:List ZR} (t:GTxn) (hx:ZcB d0 m oldest pg0 t ps pg) (hB:pg0.length≤1000) (hm:ZaD t.Za):ZQ Go.Proofs.Tryz.prog 296 [.d (.agg t.cells)] [] [.dead] (txnV (Zmb t) t) []:=by
 refine cofF Go.Proofs.Tryz.func296 hr296 hl296 ?_;have hw:=hx.txs.ok.smallW hB;have hdk:=hx.txs.ok.disk;have hsd:=Zb4 hdk;obtain ⟨k,c,hlk⟩:=ZiY hx.txs.tree;have hps:ZqM (Zeo t.ZK.Zc t.Zy)= .tup [.d (.sl (Zaj ps)),.d (.bool true)]:=by rw [ZgV hx.txs.tree];rfl
 have hpg:ZqN t.ZK.Zc t.Zy= .tup [.d (.sl (ints (ZaP pg))),.d (.bool true)]:=by unfold ZqN;rw [hlk];rfl
 have hpl:=ZgY hx.txs.tree;rw [ZqO hx];unfold ZwO;simp -implicitDefEqProofs only [go_sem,GTxn.cells];repeat ((first|refine rq ?_|refine ZfY t hm hw (by simp -implicitDefEqProofs only [go_sem,GTxn.cells_eq];first|done|rfl) ?_|refine ZgK t.ZK.Zc t.Zy hsd.1 hsd.2 (Zbk hdk) (by simp -implicitDefEqProofs only [go_sem,ZT.cells_eq];first|done|rfl) ?_|refine Zr9 t.ZK.Zc t.Zy hsd.1 hsd.2 (Zbk hdk) (by simp -implicitDefEqProofs only [go_sem,ZT.cells_eq];first|done|rfl) ?_|fail);simp -implicitDefEqProofs only [go_sem,hps,hpg,GTxn.cells])
 cases hb:ZhC t.ZK ps with
 |none=>
  have hbv:Zkg t.ZK ps= .tup [.d (.agg t.ZK.cells),.d (.int .i64 0),.d (.bool false)]:=by rw [Zkg,hb]
  simp -implicitDefEqProofs only [go_sem,hbv,hps,hpg,GTxn.cells,ZS.cells];repeat ((first|refine rq ?_|refine wl ?_|refine gl ?_|refine Zis t.ZK ps hw (by omega) (by simp -implicitDefEqProofs only [go_sem,ZS.cells_eq];first|done|rfl) ?_|fail);simp -implicitDefEqProofs only [go_sem,hbv,hps,hpg,GTxn.cells,ZS.cells])
  try rfl
 |some r=>
  obtain ⟨w1,root1⟩:=r;have hbv:Zkg t.ZK ps= .tup [.d (.agg w1.cells),.d (.int .i64 root1),.d (.bool true)]:=by rw [Zkg,hb]
  simp -implicitDefEqProofs only [go_sem,hbv,hps,hpg,GTxn.cells,ZS.cells];repeat ((first|refine rq ?_|refine wl ?_|refine gl ?_|refine Zis t.ZK ps hw (by omega) (by simp -implicitDefEqProofs only [go_sem,ZS.cells_eq];first|done|rfl) ?_|fail);simp -implicitDefEqProofs only [go_sem,hbv,hps,hpg,GTxn.cells,ZS.cells])
  obtain ⟨_,b1,pg',b2,b3,b4,_⟩:=ZlH hx.txs.ok hb;have hmem:∀q,q∈ZaP pg↔q∈pg:=fun q=>Zbs.mem_iff
  have hnd:(ZaP pg).Nodup:=Zbs.nodup_iff.2 hx.txs.tree.nodup;have hlv:∀q∈ZaP pg,live pg0 w1 q:=fun q hq=>(b3 q).2 (.inl ((hx.txs.now q).2 ((hmem q).1 hq)))
  have hst:∀i,WOK (Zef m oldest) pg0 (((ZaP pg).take i).foldl ZbP w1):=fun i=>(ZgQ (l:=(ZaP pg).take i) b1 (fun q hq=>hlv q (List.mem_of_mem_take hq)) (hnd.sublist (List.take_sublist i _))).1
  have hsl:(ZaP pg).length≤131072:=by rw [Zbw];exact hpl.2
  refine ZY (α:=Nat) (fun i=>⟨[(1,.ref 0 0),(2,.ref 1 0),(7,.d (.sl (ints (ZaP pg)))),(9,.ref 8 0),(10,.d (.int .i64 root1)),(12,.d (.int .i64 i))],[(0,some (.box [.d (.int .i64 t.Za.ZF),.d (.int .i64 t.Za.Zy),.d (.int .i64 t.Za.Zs),.d (.sl (Z9 t.Za.Ze)),.d (.sl (strs t.ZK.Zc.Zv)),.d (.sl (Zae t.ZK.Zc.Zm)),.d (.int .i64 t.ZK.Zs),.d (.sl (ints t.ZK.ZH)),.d (.sl (ints t.ZK.Zg)),.d (.sl (ints t.ZK.Zf)),.d (.int .i64 t.Zy)])),(1,some (.box [.d (.int .i64 0),.d (.int .i64 0),.d (.int .i64 0),.own 2 0 0,.own 3 0 0,.own 4 0 0,.d (.int .i64 0),.own 5 0 0,.own 6 0 0,.own 7 0 0,.d (.int .i64 0)])),(2,some (.arr 2 [])),(3,some (.arr 1 [])),(4,some (.arr 2 [])),(5,some (.arr 1 [])),(6,some (.arr 1 [])),(7,some (.arr 1 [])),(8,some (.box [.d (.sl (strs (((ZaP pg).take i).foldl ZbP w1).Zc.Zv)),.d (.sl (Zae (((ZaP pg).take i).foldl ZbP w1).Zc.Zm)),.d (.int .i64 (((ZaP pg).take i).foldl ZbP w1).Zs),.d (.sl (ints (((ZaP pg).take i).foldl ZbP w1).ZH)),.d (.sl (ints (((ZaP pg).take i).foldl ZbP w1).Zg)),.d (.sl (ints (((ZaP pg).take i).foldl ZbP w1).Zf))]))]⟩)
   (fun i=>i≤(ZaP pg).length) (fun i=>(ZaP pg).length - i) 0 rfl (Nat.zero_le _) ?_
  rintro i i1;have hwi:=hst i;have hstep:∀q,(ZaP pg)[i]? =some q→((ZaP pg).take (i+1)).foldl ZbP w1=ZbP (((ZaP pg).take i).foldl ZbP w1) q:=fun q hq=>by rw [Z7 hq,List.foldl_append];rfl
  have hall:(ZaP pg).length≤i→((ZaP pg).take i).foldl ZbP w1=(ZaP pg).foldl ZbP w1:=fun h=>by rw [List.take_of_length_le h]
  generalize ((ZaP pg).take i).foldl ZbP w1=u at hwi hstep hall ⊢;have hi1:IntKind.i64.wrap ((i:Int)+1)=((i+1:Nat):Int):=ZV (by simp only [LEN];omega);simp -implicitDefEqProofs only [go_sem];refine fork (fun h5=>?_) (fun h5=>?_)
  ·obtain ⟨q,hq⟩:=Z3 h5;have hde:=ZcL (p:=q) hwi;simp -implicitDefEqProofs only [go_sem,ZO hq,ZS.cells];repeat ((first|refine rq ?_|refine wl ?_|refine gl ?_|refine Zbp u q (hwi.smallW hB) (by simp -implicitDefEqProofs only [go_sem,ZS.cells_eq];first|done|rfl) ?_|fail);simp -implicitDefEqProofs only [go_sem,ZO hq,ZS.cells])
   rw [hi1,hde,←hstep q hq];exact ZP (i+1) rfl (by omega) (by omega)
  ·have he:=hall (by omega);subst he;simp -implicitDefEqProofs only [go_sem,ZX.cells,GTxn.cells];repeat ((first|refine rq ?_|refine wl ?_|refine gl ?_|refine ZbY t.Za hm (by simp -implicitDefEqProofs only [go_sem,ZX.cells_eq];first|done|rfl) ?_|fail);simp -implicitDefEqProofs only [go_sem,ZX.cells,GTxn.cells])
   try rfl
def Zlm {d0:ZT} {m:ZX} {oldest:Int} {pg0 pg:List Int} {ps:List ZR} (t:GTxn) (hx:ZcB d0 m oldest pg0 t ps pg) (hB:pg0.length≤1000) (hm:ZaD t.Za):=kf (ZsP t hx hB hm)
@[go_sem] def hr288:ZW:=hh [[0],[0]]
@[go_sem] def hl288:ZW:=hh []
attribute [go_sem] Go.Proofs.Tryz.results288
theorem ZpA (l:List ZR) (hl:l.length≤1048576):ZQ Go.Proofs.Tryz.prog 288 [.d (.sl (Zaj l))] [] [.dead] (.d (.sl (Zaj l))) []:=by
 refine cofF Go.Proofs.Tryz.func288 hr288 hl288 ?_;simp -implicitDefEqProofs only [go_sem];repeat ((first|refine rq ?_|fail);simp -implicitDefEqProofs only [go_sem,ZeR])
def Zd2 (l:List ZR) (hl:l.length≤1048576):=kf (ZpA l hl)
def Zhx (l:List ZR) (key:Key) (i:Nat):List ZR:=ZeI (l.take i) key
theorem Zpx {l:List ZR} {key:Key} {i:Nat} {p:ZR} (h:l[i]? =some p):Zhx l key (i+1)=Zhx l key i++(if p.Zi=key then [] else [p]):=by
 unfold Zhx ZeI;rw [Z7 h,List.filter_append];by_cases e:p.Zi=key<;>simp [e]
theorem Zsu {l:List ZR} {key:Key} {i:Nat}:(Zhx l key i).length≤min i l.length:=by
 have:=List.length_filter_le (fun p:ZR=> !decide (p.Zi=key)) (l.take i);simpa [Zhx,ZeI] using this
@[go_sem] def hr53:ZW:=hh [[0,1],[0,1],[0,1,5],[0,1,5,6],[0,1,5,6],[0,1,5,6],[0,1,5,6],[5]]
@[go_sem] def hl53:ZW:=hh [[],[],[],[0,1,5,6]]
attribute [go_sem] Go.Proofs.Tryz.results53
theorem Zoc (l:List ZR) (key:Key) (hl:l.length≤1048576):ZQ Go.Proofs.Tryz.prog 53 [.d (.sl (Zaj l)),.d (.str key)] [] [.dead,.dead] (.d (.sl (Zaj (ZeI l key)))) []:=by
 refine cofF Go.Proofs.Tryz.func53 hr53 hl53 ?_;simp -implicitDefEqProofs only [go_sem];repeat ((first|refine rq ?_|fail);simp -implicitDefEqProofs only [go_sem])
 refine ZY (α:=Nat) (fun i=>⟨[(0,.d (.sl (Zaj l))),(1,.d (.str key)),(5,.own 0 0 (Zhx l key i).length),(6,.d (.int .i64 i))],[(0,some (.arr 2 (Zaj (Zhx l key i))))]⟩)
  (fun i=>i≤l.length) (fun i=>l.length - i) 0 rfl (Nat.zero_le _) ?_
 rintro i i1;have hdl:= @Zsu l key i;have hi1:IntKind.i64.wrap ((i:Int)+1)=((i+1:Nat):Int):=ZV (by simp only [LEN];omega);simp -implicitDefEqProofs only [go_sem];refine fork (fun h5=>?_) (fun h5=>?_)
 ·obtain ⟨p,hp⟩:=Z3 h5;have hst:=Zpx (key:=key) hp;by_cases hx:p.Zi=key
  ·have dx:=decide_eq_true hx;rw [if_pos hx,List.append_nil] at hst;simp -implicitDefEqProofs only [go_sem,Zar hp,dx];repeat ((first|refine rq ?_|refine wl ?_|refine gl ?_|fail);simp -implicitDefEqProofs only [go_sem,Zar hp,dx])
   rw [hi1,←hst];exact ZP (i+1) rfl (by omega) (by omega)
  ·have dx:=decide_eq_false hx;rw [if_neg hx] at hst;simp -implicitDefEqProofs only [go_sem,Zar hp,dx];repeat ((first|refine rq ?_|refine wl ?_|refine gl ?_|fail);simp -implicitDefEqProofs only [go_sem,Zar hp,dx])
   rw [hi1];refine ZP (i+1) ?_ (by omega) (by omega);simp [hst,Zaj,ZR.cells]
 ·have hall:Zhx l key i=ZeI l key:=by rw [Zhx,List.take_of_length_le (by omega)]
  rw [hall];simp -implicitDefEqProofs only [go_sem,ZeR];repeat ((first|refine rq ?_|refine wl ?_|refine gl ?_|fail);simp -implicitDefEqProofs only [go_sem,ZeR])
  try rfl
def Zir (l:List ZR) (key:Key) (hl:l.length≤1048576):=kf (Zoc l key hl)
@[go_sem] def hr262:ZW:=hh [[0,1],[0,3],[0,3,6],[0,3,6,7],[0,3,6,7,20],[0,6],[0,7],[0,7],[0,3,6,7,20],[0,3,6],[0,3,7],[0,3,7],[0,3,6,7,20],[0,3,6],[0,3,7],[0,3,7],[0,3,6,7,20],[0,6],[0,7],[0,7],[0,3,6,7,20],[0,6],[0,3,6,7,20],[0,3,6],[0,3,7],[0,3,7],[0,3,6,7,20],[0,3,6],[0,8,9],[0,3,6,7,20],[0,3,6],[0,3,7],[0,3,7,10],[0,3,7,10,11],[0,3,7,10,11],[0,3,7,10,11],[0,3,7,10,11],[0,7,10],[0,3,6,7,20],[0,6,7],[0],[0,6,7],[0,6,7,12,13],[0,7,12,13,14],[0,14],[0,14],[0,7,12,14],[0,7,14],[0,3,7,20],[0,3,7],[0,7]]
@[go_sem] def hl262:ZW:=hh [[],[],[],[],[],[],[],[],[],[],[],[],[],[],[],[],[],[],[],[],[],[],[],[],[],[],[],[],[],[],[],[],[],[0,3,7,10,11]]
attribute [go_sem] Go.Proofs.Tryz.results262
@[go_sem] def hr221:ZW:=hh [[0,1],[0,3],[0,4,5],[0,5]]
@[go_sem] def hl221:ZW:=hh []
attribute [go_sem] Go.Proofs.Tryz.results221
@[go_sem] def hr298:ZW:=hh [[0,1],[0,3],[0,3,4],[0,3,4],[0,3,4],[0,4],[0,4,5,6],[0,4,5],[0,5],[0,5],[0,5],[0]]
@[go_sem] def hl298:ZW:=hh []
attribute [go_sem] Go.Proofs.Tryz.results298
def DoC (w:Zac) (e:Z6) (r:Zac×Int×Key):Prop:=
 ZQ Go.Proofs.Tryz.prog 262 [.ref 0 0,.d (.agg e.cells)] [(0,.box (wdV w))] [.ref 0 0,.dead] (doV r) [(0,.box (wdV r.1))]
end Go.Rx
