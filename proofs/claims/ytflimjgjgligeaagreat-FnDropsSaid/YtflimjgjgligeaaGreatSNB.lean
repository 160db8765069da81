/-
  Part NB: lemmas on an evaluator over plain data of the model's code, plain laws on lists and numbers, or contracts of functions of the program; each lemma names its conditions.
-/
import Derived.Test.YtflimjgjgligeaaGreatSA1
import Derived.Test.YtflimjgjgligeaaGreatSA4
import Derived.Test.YtflimjgjgligeaaGreatSE1
import Derived.Test.YtflimjgjgligeaaGreatSE2
import Derived.Test.YtflimjgjgligeaaGreatSE4
import Derived.Test.YtflimjgjgligeaaGreatSE5
import Derived.Test.YtflimjgjgligeaaGreatSE6
import Derived.Test.YtflimjgjgligeaaGreatSNA
import Derived.Test.YtflimjgjgligeaaGreatSP1
import Derived.Test.YtflimjgjgligeaaGreatSP2
import Derived.Test.YtflimjgjgligeaaGreatSP5
import Derived.Test.YtflimjgjgligeaaGreatSR0

set_option linter.unusedSimpArgs false
set_option linter.unusedVariables false
set_option maxRecDepth 100000
set_option maxHeartbeats 16000000
set_option linter.defProp false
namespace Go.Rx
open Go
theorem Tre.asc {rd:RD} (ho:rdOk rd):∀ {h:Nat} {p:Int} {f:Key} {ps:List ZR} {pg:List Int},Tre rd h p f ps pg→ascP ps
 |0,p,f,ps,pg,⟨n,h1,h2,h3,h4,h5⟩=>by
  have hn:=ho _ _ h1;rw [h4,ZhF,Zb6 hn h2];exact hn.2.2.1
 |h+1,p,f,ps,pg,⟨n,ks,h1,h2,h3,h4,h5,h6,h7,h8,h9⟩=>by
  rw [h8];have hl:∀k∈ks,∀q∈k.pairs,kle k.key q.Zi:=fun k hk q hq=>Zdl (h7.1 k hk) (Tre.low ho (h6 k hk) q hq)
  have ha:∀k∈ks,ascP k.pairs:=fun k hk=>Tre.asc ho (h6 k hk)
  have h7':=h7.2;clear h1 h2 h3 h4 h5 h6 h7 h8 h9;induction ks with
  |nil=>exact List.Pairwise.nil
  |cons k ks ih=>
   obtain ⟨g1,g2⟩:=List.pairwise_cons.1 h7';unfold ascP;rw [List.flatMap_cons,List.pairwise_append];refine ⟨ha k (by simp),ih (fun k hk=>hl k (by simp [hk])) (fun k hk=>ha k (by simp [hk])) g2,fun a ham b hb=>?_⟩;obtain ⟨k2,hk2,hb⟩:=List.mem_flatMap.1 hb;exact ZbB (g1 k2 hk2 a ham) (hl k2 (by simp [hk2]) b hb)
end Go.Rx

namespace Go.Rx
open Go
theorem Zdp.asc {rd:RD} (ho:rdOk rd) {root:Int} {ps:List ZR} {pg:List Int}:Zdp rd root ps pg→ascP ps
 | .inl ⟨_,h,_⟩=>by rw [h];exact List.Pairwise.nil
 | .inr ⟨_,_,_,_,_,h⟩=>h.asc ho
end Go.Rx

namespace Go.Rx
open Go
attribute [local irreducible] Req Way WayG Sel Z2 ZQ Zaz cVC Zai ZaO
@[go_sem] def hr137:ZW:=hh [[0],[0],[0],[0]]
@[go_sem] def hl137:ZW:=hh []
attribute [go_sem] Go.Proofs.Tryz.results137
theorem ZCw (x:Nat) (hx:x<10):ZQ Go.Proofs.Tryz.prog 137 [.d (.int .i64 x)] [] [.dead] (.d (.int .u8 ((48+x:Nat):Int))) []:=by
 refine cof Go.Proofs.Tryz.func137 hr137 hl137 [false] ?_;have d1:decide ((x:Int)<10)=true:=decide_eq_true (by omega);have e1:IntKind.u8.wrap (IntKind.i64.wrap (48+(x:Int)))=((48+x:Nat):Int):=by
  rw [Zad (by omega) (by omega)];simp only [IntKind.wrap,IntKind.bits,IntKind.signed];simp;omega
 simp -implicitDefEqProofs only [go_sem,d1,e1];repeat ((first|refine rq ?_|refine wl ?_|refine gl ?_|fail);simp -implicitDefEqProofs only [go_sem,d1,e1])
def ZCu (x:Nat) (hx:x<10):=kf (ZCw x hx)
def ZCn (n:Nat) (acc:Key):Key:=if n=0 then acc else ZCn (n / 10) (UInt8.ofNat (48+n%10)::acc)
decreasing_by omega
def decB (n:Nat):Key:=if n=0 then [48] else ZCn n []
theorem ZCq {n:Nat} {acc:Key} (h:n≠0):ZCn n acc=ZCn (n / 10) (UInt8.ofNat (48+n%10)::acc):=by
 conv=>lhs;unfold ZCn
 rw [if_neg h]
theorem ZCp {acc:Key}:ZCn 0 acc=acc:=by unfold ZCn;simp
theorem ZCv:∀ {n:Nat} {acc:Key},(ZCn n acc).length≤n+acc.length:=by
 intro n;induction n using Nat.strongRecOn with
 |ind n ih=>
  intro acc;by_cases h:n=0
  ·subst h;rw [ZCp];omega
  ·rw [ZCq h];have:=ih (n / 10) (by omega) (acc:=UInt8.ofNat (48+n%10)::acc);simp only [List.length_cons] at this;omega
theorem ZCs {n:Nat}:ZhB [.int .u8 ((48+n%10:Nat):Int)]=UInt8.ofNat (48+n%10):=rfl
theorem dec_cell {n:Nat}:[ZaU (UInt8.ofNat (48+n%10))]=[[D.int .u8 ((48+n%10:Nat):Int)]]:=by
 simp [ZaU];omega
@[go_sem] def hr62:ZW:=hh [[0],[0],[],[0],[0,3],[0,3,4],[0,3,4],[0,3,4,5],[0,3,4,5],[0,3,4,5],[0,3,4],[3,4],[4],[4]]
@[go_sem] def hl62:ZW:=hh [[],[],[],[],[],[0,3,4]]
attribute [go_sem] Go.Proofs.Tryz.results62
theorem ZCt (n:Nat) (hn:n≤4294967296):ZQ Go.Proofs.Tryz.prog 62 [.d (.int .i64 n)] [] [.dead] (.d (.str (decB n))) []:=by
 refine cof Go.Proofs.Tryz.func62 hr62 hl62 [false] ?_;by_cases h0:n=0
 ·subst h0;simp -implicitDefEqProofs only [go_sem];repeat ((first|refine rq ?_|refine wl ?_|refine gl ?_|fail);simp -implicitDefEqProofs only [go_sem])
  try rfl
 have d0:decide ((n:Int)=0)=false:=decide_eq_false (by omega);have d1:decide ((n:Int)<0)=false:=decide_eq_false (by omega);have e0:decB n=ZCn n []:=by unfold decB;rw [if_neg h0]
 rw [e0];simp -implicitDefEqProofs only [go_sem,d0,d1];repeat ((first|refine rq ?_|refine wl ?_|refine gl ?_|fail);simp -implicitDefEqProofs only [go_sem,d0,d1])
 refine ZY (α:=Nat×Key) (fun x=>⟨[(0,.d (.int .i64 x.1)),(3,.d (.bool false)),(4,.d (.str x.2))],[]⟩)
  (fun x=>x.1+x.2.length≤n∧ZCn x.1 x.2=ZCn n []) (fun x=>x.1) (n,[]) rfl ⟨by simp,rfl⟩ ?_
 rintro ⟨k,acc⟩ ⟨h2,h3⟩;simp only at h2 h3;by_cases hk:k=0
 ·subst hk;rw [ZCp] at h3;have d2:decide (((0:Nat):Int)=0)=true:=rfl;simp -implicitDefEqProofs only [go_sem,d2];repeat ((first|refine rq ?_|refine wl ?_|refine gl ?_|fail);simp -implicitDefEqProofs only [go_sem,d2])
  rw [h3]
 ·have d2:decide ((k:Int)=0)=false:=decide_eq_false (by omega);have e1:Int.tmod (k:Int) 10=((k%10:Nat):Int):=rfl;have e2:IntKind.i64.wrap ((k%10:Nat):Int)=((k%10:Nat):Int):=Zad (by omega) (by omega);have e3:Int.tdiv (k:Int) 10=((k / 10:Nat):Int):=rfl;have e4:IntKind.i64.wrap ((k / 10:Nat):Int)=((k / 10:Nat):Int):=Zad (by omega) (by omega);have d3:decide (((k%10:Nat):Int)<0)=false:=decide_eq_false (by omega);simp -implicitDefEqProofs only [go_sem,d2,e1,e2,e3,e4,d3,ZCs];repeat ((first|refine rq ?_|refine wl ?_|refine gl ?_|refine ZCu (k%10) (by omega) rfl ?_|fail);simp -implicitDefEqProofs only [go_sem,d2,e1,e2,e3,e4,d3,ZCs])
  refine ZP (k / 10,UInt8.ofNat (48+k%10)::acc) rfl ⟨?_,?_⟩ ?_
  ·simp only [List.length_cons];omega
  ·exact (ZCq hk).symm.trans h3
  ·simp only;omega
def ZCo (n:Nat) (hn:n≤4294967296):=kf (ZCt n hn)
def ZCr (l:List ZR) (n:Nat):Key:=if 0<l.length∧0<n%4 then ((l.getD (n%l.length) ZwM).Zi) else [107,101,121]++decB (n%7)
@[go_sem] def hr19:ZW:=hh [[0,1],[0,1],[0,1],[1]]
@[go_sem] def hl19:ZW:=hh []
attribute [go_sem] Go.Proofs.Tryz.results19
theorem cl_key (l:List ZR) (n:Nat) (hl:l.length≤1048576) (hn:n≤1048576):ZQ Go.Proofs.Tryz.prog 19 [.d (.sl (Zaj l)),.d (.int .i64 n)] [] [.dead,.dead] (.d (.str (ZCr l n))) []:=by
 refine cof Go.Proofs.Tryz.func19 hr19 hl19 [false,false] ?_;have e1:Int.tmod (n:Int) 4=((n%4:Nat):Int):=rfl;have e2:IntKind.i64.wrap ((n%4:Nat):Int)=((n%4:Nat):Int):=Zad (by omega) (by omega);have e3:Int.tmod (n:Int) 7=((n%7:Nat):Int):=rfl;have e4:IntKind.i64.wrap ((n%7:Nat):Int)=((n%7:Nat):Int):=Zad (by omega) (by omega);have hdl:(decB (n%7)).length≤7:=by
  unfold decB;split
  ·simp
  ·have:=ZCv (n:=n%7) (acc:=[]);simp at this;omega
 by_cases h0:0<l.length
 ·have d0:decide ((0:Int)<(l.length:Int))=true:=decide_eq_true (by omega);by_cases h1:0<n%4
  ·have d1:decide ((0:Int)<((n%4:Nat):Int))=true:=decide_eq_true (by omega);have hlt:=Nat.mod_lt n h0;obtain ⟨p,hp⟩:∃p,l[n%l.length]? =some p:=⟨_,List.getElem?_eq_getElem hlt⟩;have e5:Int.tmod (n:Int) (l.length:Int)=((n%l.length:Nat):Int):=rfl;have e6:IntKind.i64.wrap ((n%l.length:Nat):Int)=((n%l.length:Nat):Int):=Zad (by omega) (by omega);have ek:ZCr l n=p.Zi:=by unfold ZCr;rw [if_pos ⟨h0,h1⟩,List.getD_eq_getElem?_getD,hp];rfl
   rw [ek];simp -implicitDefEqProofs only [go_sem,d0,d1,e1,e2,e5,e6,Zar hp];repeat ((first|refine rq ?_|refine wl ?_|refine gl ?_|fail);simp -implicitDefEqProofs only [go_sem,d0,d1,e1,e2,e5,e6,Zar hp])
   done
  ·have d1:decide ((0:Int)<((n%4:Nat):Int))=false:=decide_eq_false (by omega);have ek:ZCr l n=[107,101,121]++decB (n%7):=by unfold ZCr;rw [if_neg (by omega)]
   rw [ek];simp -implicitDefEqProofs only [go_sem,d0,d1,e1,e2,e3,e4];repeat ((first|refine rq ?_|refine wl ?_|refine gl ?_|refine ZCo (n%7) (by omega) rfl ?_|fail);simp -implicitDefEqProofs only [go_sem,d0,d1,e1,e2,e3,e4])
   try rfl
 ·have d0:decide ((0:Int)<(l.length:Int))=false:=decide_eq_false (by omega);have ek:ZCr l n=[107,101,121]++decB (n%7):=by unfold ZCr;rw [if_neg (by omega)]
  rw [ek];simp -implicitDefEqProofs only [go_sem,d0,e3,e4];repeat ((first|refine rq ?_|refine wl ?_|refine gl ?_|refine ZCo (n%7) (by omega) rfl ?_|fail);simp -implicitDefEqProofs only [go_sem,d0,e3,e4])
  try rfl
def kl_key (l:List ZR) (n:Nat) (hl:l.length≤1048576) (hn:n≤1048576):=kf (cl_key l n hl hn)
@[go_sem] def hr22:ZW:=hh [[0,1],[1,2],[5]]
@[go_sem] def hl22:ZW:=hh []
attribute [go_sem] Go.Proofs.Tryz.results22
theorem ZE3 (d:ZT) (root:Int) (ps:List ZR) (hp:Zeo d root=some ps) (h1:d.Zv.length≤1048576) (h2:d.Zm.length≤1048576) (hsm:∀p,(ZU d p).length≤1048576):ZQ Go.Proofs.Tryz.prog 22 [.d (.agg d.cells),.d (.int .i64 root)] [] [.dead,.dead] (.d (.sl (Zaj ps))) []:=by
 refine cofF Go.Proofs.Tryz.func22 hr22 hl22 ?_;have hv:ZqM (Zeo d root)= .tup [.d (.sl (Zaj ps)),.d (.bool true)]:=by rw [hp];rfl
 simp -implicitDefEqProofs only [go_sem,ZT.cells,hv];repeat ((first|refine rq ?_|refine wl ?_|refine gl ?_|refine ZgK d root h1 h2 hsm (by simp -implicitDefEqProofs only [go_sem,ZT.cells_eq];first|done|rfl) ?_|fail);simp -implicitDefEqProofs only [go_sem,ZT.cells,hv])
 try rfl
def kl_pairs (d:ZT) (root:Int) (ps:List ZR) (hp:Zeo d root=some ps) (h1:d.Zv.length≤1048576) (h2:d.Zm.length≤1048576) (hsm:∀p,(ZU d p).length≤1048576):=kf (ZE3 d root ps hp h1 h2 hsm)
@[go_sem] def hr37:ZW:=hh [[0,1],[1,2],[5],[],[5],[5,6],[5,6],[5,6],[],[5],[5,7],[5,7],[5,7],[],[]]
@[go_sem] def hl37:ZW:=hh [[],[],[],[],[],[5,6],[],[],[],[],[5,7]]
attribute [go_sem] Go.Proofs.Tryz.results37
theorem ZE5 {ps:List ZR} {pg:List Int} (d:ZT) (root:Int) (ht:Zdp (rdW d) root ps pg) (h1:d.Zv.length≤1048576) (h2:d.Zm.length≤1048576) (hsm:∀p,(ZU d p).length≤1048576):ZQ Go.Proofs.Tryz.prog 37 [.d (.agg d.cells),.d (.int .i64 root)] [] [.dead,.dead] (.d (.bool true)) []:=by
 refine cof Go.Proofs.Tryz.func37 hr37 hl37 [false,false] ?_;obtain ⟨n,c,hlk⟩:=ZiY ht;have hc:=Zvt d root h1 h2 hsm;have hlen:= @ZuH d root;rw [hlk] at hc hlen;simp only [List.length_replicate] at hlen;have hasc:ascP ps:=ht.asc Zcx;simp -implicitDefEqProofs only [go_sem,ZT.cells];refine ZcM (xs:=[.agg d.cells,.int .i64 root]) rfl hc rfl (.inl rfl) ?_;simp -implicitDefEqProofs only [go_sem,ZaI];repeat ((first|refine rq ?_|refine wl ?_|refine gl ?_|fail);simp -implicitDefEqProofs only [go_sem,ZaI])
 refine ZY (α:=Nat) (fun i=>⟨[(5,.ref 0 0),(6,.d (.int .i64 i))],[(0,some (.box [.own 1 0 ps.length,.own 2 0 pg.length,.own 3 0 (List.replicate n c).length,.d (.bool false),.d (.bool false)])),(1,some (.arr 2 (Zaj ps))),(2,some (.arr 1 (ints pg))),(3,some (.arr 1 (ints (List.replicate n c))))]⟩)
  (fun i=>1≤i∧i≤ps.length+1) (fun i=>ps.length+1 - i) 1 rfl (by omega) ?_
 rintro i ⟨i1,i2⟩;have hi1:IntKind.i64.wrap ((i:Int)+1)=((i+1:Nat):Int):=ZV (by simp only [LEN];omega);have hi2:IntKind.i64.wrap ((i:Int) - 1)=((i - 1:Nat):Int):=by rw [Zad (by omega) (by omega)];omega
 simp -implicitDefEqProofs only [go_sem];refine fork (fun h5=>?_) (fun h5=>?_)
 ·obtain ⟨y,hy⟩:=Z3 (l:=ps) (i:=i) (by omega);obtain ⟨x,hx⟩:=Z3 (l:=ps) (i:=i - 1) (by omega);have dlt:Zax x.Zi y.Zi=true:=by
   obtain ⟨q1,e1⟩:=List.getElem?_eq_some_iff.1 hx;obtain ⟨q2,e2⟩:=List.getElem?_eq_some_iff.1 hy;have:=List.pairwise_iff_getElem.1 hasc (i - 1) i q1 q2 (by omega);rw [e1,e2] at this;exact this
  simp -implicitDefEqProofs only [go_sem,hi2,Zar hx,Zar hy,dlt];repeat ((first|refine rq ?_|refine wl ?_|refine gl ?_|fail);simp -implicitDefEqProofs only [go_sem,hi2,Zar hx,Zar hy,dlt])
  rw [hi1];exact ZP (i+1) rfl ⟨by omega,by omega⟩ (by omega)
 ·simp -implicitDefEqProofs only [go_sem];repeat ((first|refine rq ?_|refine wl ?_|refine gl ?_|fail);simp -implicitDefEqProofs only [go_sem])
  have hln:(List.replicate n c).length=n:=List.length_replicate;have hall:∀(j:Nat) (z:Int),(List.replicate n c)[j]? =some z→z=c:=fun j z h=>by
   obtain ⟨q,e⟩:=List.getElem?_eq_some_iff.1 h;rw [List.getElem_replicate] at e;exact e.symm
  generalize List.replicate n c=L at hln hall ⊢;refine ZY (α:=Nat) (fun i=>⟨[(5,.ref 0 0),(7,.d (.int .i64 i))],[(0,some (.box [.own 1 0 ps.length,.own 2 0 pg.length,.own 3 0 L.length,.d (.bool false),.d (.bool false)])),(1,some (.arr 2 (Zaj ps))),(2,some (.arr 1 (ints pg))),(3,some (.arr 1 (ints L)))]⟩)
   (fun i=>1≤i∧i≤L.length+1) (fun i=>L.length+1 - i) 1 rfl (by omega) ?_
  rintro j ⟨j1,j2⟩;have hj1:IntKind.i64.wrap ((j:Int)+1)=((j+1:Nat):Int):=ZV (by simp only [LEN];omega);simp -implicitDefEqProofs only [go_sem];refine fork (fun h8=>?_) (fun h8=>?_)
  ·obtain ⟨y,hy⟩:=Z3 (l:=L) (i:=j) (by omega);obtain ⟨x,hx⟩:=Z3 (l:=L) (i:=0) (by omega);have dxy:decide (y=x)=true:=decide_eq_true ((hall _ _ hy).trans (hall _ _ hx).symm);simp -implicitDefEqProofs only [go_sem,ZO hx,ZO hy,dxy];repeat ((first|refine rq ?_|refine wl ?_|refine gl ?_|fail);simp -implicitDefEqProofs only [go_sem,ZO hx,ZO hy,dxy])
   rw [hj1];exact ZP (j+1) rfl ⟨by omega,by omega⟩ (by omega)
  ·simp -implicitDefEqProofs only [go_sem];repeat ((first|refine rq ?_|refine wl ?_|refine gl ?_|fail);simp -implicitDefEqProofs only [go_sem])
def ks_TreeOk {ps:List ZR} {pg:List Int} (d:ZT) (root:Int) (ht:Zdp (rdW d) root ps pg) (h1:d.Zv.length≤1048576) (h2:d.Zm.length≤1048576) (hsm:∀p,(ZU d p).length≤1048576):=kf (ZE5 d root ht h1 h2 hsm)
end Go.Rx
