/-
  Part NC: lemmas on an evaluator over plain data of the model's code, plain laws on lists and numbers, or contracts of functions of the program; each lemma names its conditions.
-/
import Derived.Test.YtflimjgjgligeaaGreatSA1
import Derived.Test.YtflimjgjgligeaaGreatSA4
import Derived.Test.YtflimjgjgligeaaGreatSE1
import Derived.Test.YtflimjgjgligeaaGreatSE2
import Derived.Test.YtflimjgjgligeaaGreatSE4
import Derived.Test.YtflimjgjgligeaaGreatSE5
import Derived.Test.YtflimjgjgligeaaGreatSE6
import Derived.Test.YtflimjgjgligeaaGreatSNA
import Derived.Test.YtflimjgjgligeaaGreatSP1
import Derived.Test.YtflimjgjgligeaaGreatSP2
import Derived.Test.YtflimjgjgligeaaGreatSP5
import Derived.Test.YtflimjgjgligeaaGreatSR0

set_option linter.unusedSimpArgs false
set_option linter.unusedVariables false
set_option maxRecDepth 100000
set_option maxHeartbeats 16000000
set_option linter.defProp false
namespace Go.Rx
open Go
theorem Tre.asc {rd:RD} (ho:rdOk rd):∀ {h:Nat} {p:Int} {f:Key} {ps:List ZR} {pg:List Int},Tre rd h p f ps pg→ascP ps
 |0,p,f,ps,pg,⟨n,h1,h2,h3,h4,h5⟩=>by
  have hn:=ho _ _ h1;rw [h4,ZhF,Zb6 hn h2];exact hn.2.2.1
 |h+1,p,f,ps,pg,⟨n,ks,h1,h2,h3,h4,h5,h6,h7,h8,h9⟩=>by
  rw [h8];have hl:∀k∈ks,∀q∈k.pairs,kle k.key q.Zi:=fun k hk q hq=>Zdl (h7.1 k hk) (Tre.low ho (h6 k hk) q hq)
  have ha:∀k∈ks,ascP k.pairs:=fun k hk=>Tre.asc ho (h6 k hk)
  have h7':=h7.2;clear h1 h2 h3 h4 h5 h6 h7 h8 h9;induction ks with
  |nil=>exact List.Pairwise.nil
  |cons k ks ih=>
   obtain ⟨g1,g2⟩:=List.pairwise_cons.1 h7';unfold ascP;rw [List.flatMap_cons,List.pairwise_append];refine ⟨ha k (by simp),ih (fun k hk=>hl k (by simp [hk])) (fun k hk=>ha k (by simp [hk])) g2,fun a ham b hb=>?_⟩;obtain ⟨k2,hk2,hb⟩:=List.mem_flatMap.1 hb;exact ZbB (g1 k2 hk2 a ham) (hl k2 (by simp [hk2]) b hb)
end Go.Rx

namespace Go.Rx
open Go
theorem Zdp.asc {rd:RD} (ho:rdOk rd) {root:Int} {ps:List ZR} {pg:List Int}:Zdp rd root ps pg→ascP ps
 | .inl ⟨_,h,_⟩=>by rw [h];exact List.Pairwise.nil
 | .inr ⟨_,_,_,_,_,h⟩=>h.asc ho
end Go.Rx

namespace Go.Rx
open Go
attribute [local irreducible] Req Way WayG Sel Z2 ZQ Zaz cVC Zai ZaO
@[go_sem] def hr22:ZW:=hh [[0,1],[1,2],[5]]
@[go_sem] def hl22:ZW:=hh []
attribute [go_sem] Go.Proofs.Tryz.results22
theorem ZE3 (d:ZT) (root:Int) (ps:List ZR) (hp:Zeo d root=some ps) (h1:d.Zv.length≤1048576) (h2:d.Zm.length≤1048576) (hsm:∀p,(ZU d p).length≤1048576):ZQ Go.Proofs.Tryz.prog 22 [.d (.agg d.cells),.d (.int .i64 root)] [] [.dead,.dead] (.d (.sl (Zaj ps))) []:=by
 refine cofF Go.Proofs.Tryz.func22 hr22 hl22 ?_;have hv:ZqM (Zeo d root)= .tup [.d (.sl (Zaj ps)),.d (.bool true)]:=by rw [hp];rfl
 simp -implicitDefEqProofs only [go_sem,ZT.cells,hv];repeat ((first|refine rq ?_|refine wl ?_|refine gl ?_|refine ZgK d root h1 h2 hsm (by simp -implicitDefEqProofs only [go_sem,ZT.cells_eq];first|done|rfl) ?_|fail);simp -implicitDefEqProofs only [go_sem,ZT.cells,hv])
 try rfl
def kl_pairs (d:ZT) (root:Int) (ps:List ZR) (hp:Zeo d root=some ps) (h1:d.Zv.length≤1048576) (h2:d.Zm.length≤1048576) (hsm:∀p,(ZU d p).length≤1048576):=kf (ZE3 d root ps hp h1 h2 hsm)
@[go_sem] def hr37:ZW:=hh [[0,1],[1,2],[5],[],[5],[5,6],[5,6],[5,6],[],[5],[5,7],[5,7],[5,7],[],[]]
@[go_sem] def hl37:ZW:=hh [[],[],[],[],[],[5,6],[],[],[],[],[5,7]]
attribute [go_sem] Go.Proofs.Tryz.results37
theorem ZE5 {ps:List ZR} {pg:List Int} (d:ZT) (root:Int) (ht:Zdp (rdW d) root ps pg) (h1:d.Zv.length≤1048576) (h2:d.Zm.length≤1048576) (hsm:∀p,(ZU d p).length≤1048576):ZQ Go.Proofs.Tryz.prog 37 [.d (.agg d.cells),.d (.int .i64 root)] [] [.dead,.dead] (.d (.bool true)) []:=by
 refine cof Go.Proofs.Tryz.func37 hr37 hl37 [false,false] ?_;obtain ⟨n,c,hlk⟩:=ZiY ht;have hc:=Zvt d root h1 h2 hsm;have hlen:= @ZuH d root;rw [hlk] at hc hlen;simp only [List.length_replicate] at hlen;have hasc:ascP ps:=ht.asc Zcx;simp -implicitDefEqProofs only [go_sem,ZT.cells];refine ZcM (xs:=[.agg d.cells,.int .i64 root]) rfl hc rfl (.inl rfl) ?_;simp -implicitDefEqProofs only [go_sem,ZaI];repeat ((first|refine rq ?_|refine wl ?_|refine gl ?_|fail);simp -implicitDefEqProofs only [go_sem,ZaI])
 refine ZY (α:=Nat) (fun i=>⟨[(5,.ref 0 0),(6,.d (.int .i64 i))],[(0,some (.box [.own 1 0 ps.length,.own 2 0 pg.length,.own 3 0 (List.replicate n c).length,.d (.bool false),.d (.bool false)])),(1,some (.arr 2 (Zaj ps))),(2,some (.arr 1 (ints pg))),(3,some (.arr 1 (ints (List.replicate n c))))]⟩)
  (fun i=>1≤i∧i≤ps.length+1) (fun i=>ps.length+1 - i) 1 rfl (by omega) ?_
 rintro i ⟨i1,i2⟩;have hi1:IntKind.i64.wrap ((i:Int)+1)=((i+1:Nat):Int):=ZV (by simp only [LEN];omega);have hi2:IntKind.i64.wrap ((i:Int) - 1)=((i - 1:Nat):Int):=by rw [Zad (by omega) (by omega)];omega
 simp -implicitDefEqProofs only [go_sem];refine fork (fun h5=>?_) (fun h5=>?_)
 ·obtain ⟨y,hy⟩:=Z3 (l:=ps) (i:=i) (by omega);obtain ⟨x,hx⟩:=Z3 (l:=ps) (i:=i - 1) (by omega);have dlt:Zax x.Zi y.Zi=true:=by
   obtain ⟨q1,e1⟩:=List.getElem?_eq_some_iff.1 hx;obtain ⟨q2,e2⟩:=List.getElem?_eq_some_iff.1 hy;have:=List.pairwise_iff_getElem.1 hasc (i - 1) i q1 q2 (by omega);rw [e1,e2] at this;exact this
  simp -implicitDefEqProofs only [go_sem,hi2,Zar hx,Zar hy,dlt];repeat ((first|refine rq ?_|refine wl ?_|refine gl ?_|fail);simp -implicitDefEqProofs only [go_sem,hi2,Zar hx,Zar hy,dlt])
  rw [hi1];exact ZP (i+1) rfl ⟨by omega,by omega⟩ (by omega)
 ·simp -implicitDefEqProofs only [go_sem];repeat ((first|refine rq ?_|refine wl ?_|refine gl ?_|fail);simp -implicitDefEqProofs only [go_sem])
  have hln:(List.replicate n c).length=n:=List.length_replicate;have hall:∀(j:Nat) (z:Int),(List.replicate n c)[j]? =some z→z=c:=fun j z h=>by
   obtain ⟨q,e⟩:=List.getElem?_eq_some_iff.1 h;rw [List.getElem_replicate] at e;exact e.symm
  generalize List.replicate n c=L at hln hall ⊢;refine ZY (α:=Nat) (fun i=>⟨[(5,.ref 0 0),(7,.d (.int .i64 i))],[(0,some (.box [.own 1 0 ps.length,.own 2 0 pg.length,.own 3 0 L.length,.d (.bool false),.d (.bool false)])),(1,some (.arr 2 (Zaj ps))),(2,some (.arr 1 (ints pg))),(3,some (.arr 1 (ints L)))]⟩)
   (fun i=>1≤i∧i≤L.length+1) (fun i=>L.length+1 - i) 1 rfl (by omega) ?_
  rintro j ⟨j1,j2⟩;have hj1:IntKind.i64.wrap ((j:Int)+1)=((j+1:Nat):Int):=ZV (by simp only [LEN];omega);simp -implicitDefEqProofs only [go_sem];refine fork (fun h8=>?_) (fun h8=>?_)
  ·obtain ⟨y,hy⟩:=Z3 (l:=L) (i:=j) (by omega);obtain ⟨x,hx⟩:=Z3 (l:=L) (i:=0) (by omega);have dxy:decide (y=x)=true:=decide_eq_true ((hall _ _ hy).trans (hall _ _ hx).symm);simp -implicitDefEqProofs only [go_sem,ZO hx,ZO hy,dxy];repeat ((first|refine rq ?_|refine wl ?_|refine gl ?_|fail);simp -implicitDefEqProofs only [go_sem,ZO hx,ZO hy,dxy])
   rw [hj1];exact ZP (j+1) rfl ⟨by omega,by omega⟩ (by omega)
  ·simp -implicitDefEqProofs only [go_sem];repeat ((first|refine rq ?_|refine wl ?_|refine gl ?_|fail);simp -implicitDefEqProofs only [go_sem])
def ks_TreeOk {ps:List ZR} {pg:List Int} (d:ZT) (root:Int) (ht:Zdp (rdW d) root ps pg) (h1:d.Zv.length≤1048576) (h2:d.Zm.length≤1048576) (hsm:∀p,(ZU d p).length≤1048576):=kf (ZE5 d root ht h1 h2 hsm)
end Go.Rx
