/-
  Part V2: lemmas on an evaluator over plain data of the model's code, plain laws on lists and numbers, or contracts of functions of the program; each lemma names its conditions.
-/
import Derived.Test.YtmeinhaecplpkaaGreatSA1
import Derived.Test.YtmeinhaecplpkaaGreatSA3
import Derived.Test.YtmeinhaecplpkaaGreatSA4
import Derived.Test.YtmeinhaecplpkaaGreatSA8
import Derived.Test.YtmeinhaecplpkaaGreatSE1
import Derived.Test.YtmeinhaecplpkaaGreatSE4
import Derived.Test.YtmeinhaecplpkaaGreatSE6
import Derived.Test.YtmeinhaecplpkaaGreatSG3
import Derived.Test.YtmeinhaecplpkaaGreatSN1
import Derived.Test.YtmeinhaecplpkaaGreatSN2
import Derived.Test.YtmeinhaecplpkaaGreatSP1
import Derived.Test.YtmeinhaecplpkaaGreatSP2
import Derived.Test.YtmeinhaecplpkaaGreatSP3
import Derived.Test.YtmeinhaecplpkaaGreatSP5

set_option linter.unusedSimpArgs false
set_option linter.unusedVariables false
set_option maxRecDepth 100000
set_option maxHeartbeats 16000000
set_option linter.defProp false
namespace Go.Rx
open Go
theorem Tre.read {rd:RD}:∀ {h:Nat} {p:Int} {f:Key} {ps:List ZR} {pg:List Int},Tre rd h p f ps pg→∀q∈pg,∃n,rd q=some n
 |0,p,f,ps,pg,⟨n,h1,h2,h3,h4,h5⟩,q,hq=>by rw [h5] at hq;simp at hq;subst hq;exact ⟨n,h1⟩
 |h+1,p,f,ps,pg,⟨n,ks,h1,h2,h3,h4,h5,h6,h7,h8,h9⟩,q,hq=>by
  rw [h9] at hq
  rcases List.mem_cons.1 hq with rfl|hq
  ·exact ⟨n,h1⟩
  ·obtain ⟨k,hk,hq⟩:=List.mem_flatMap.1 hq
   exact Tre.read (h6 k hk) q hq
end Go.Rx
namespace Go.Rx
open Go
theorem Zdp.root {rd:RD} {root:Int} {ps:List ZR} {pg:List Int}:Zdp rd root ps pg→(root=0∨root∈pg)
 | .inl ⟨h,_⟩=> .inl h
 | .inr ⟨_,_,_,_,_,h⟩=> .inr h.mem
theorem Zdp.read {rd:RD} {root:Int} {ps:List ZR} {pg:List Int}:Zdp rd root ps pg→∀q∈pg,∃n,rd q=some n
 | .inl ⟨_,_,h⟩,q,hq=>by rw [h] at hq;cases hq
 | .inr ⟨_,_,_,_,_,h⟩,q,hq=>h.read q hq
end Go.Rx
namespace Go.Rx
open Go
attribute [local irreducible] Req Way WayG Sel Z2 ZQ Zaz cVC Zai ZaO
theorem ZBO {l:List Int} (h:l.Nodup) {i:Nat} {x y:Int} (hx:(ZaP l)[i]? =some x) (hy:(ZaP l)[i+1]? =some y):x<y:=by
 have h1:leS (ZaP l):=Zfm
 have h2:(ZaP l).Nodup:=Zbs.nodup_iff.2 h
 obtain ⟨a1,a2⟩:=List.getElem?_eq_some_iff.1 hx
 obtain ⟨b1,b2⟩:=List.getElem?_eq_some_iff.1 hy
 have h3:=List.pairwise_iff_getElem.1 h1 i (i+1) a1 b1 (by omega)
 have h4:=List.pairwise_iff_getElem.1 h2 i (i+1) a1 b1 (by omega)
 rw [a2,b2] at h3 h4
 omega
@[go_sem] def hr9:ZW:=hh [[0],[0],[],[0],[3],[3,4,5],[3,4,5,6],[3,4,5,6],[3,4,5,6],[3,4,5,6,8],[],[3,4,5]]
@[go_sem] def hl9:ZW:=hh [[],[],[],[],[],[],[3,4,5,6]]
attribute [go_sem] Go.Proofs.Tryz.results9
theorem ZBK (code:List UInt8) (hl:code.length≤1048576):ZQ Go.Proofs.Tryz.prog 9 [.d (.sl (bys code))] [] [.dead] (.d (.bool true)) []:=by
 refine cof Go.Proofs.Tryz.func9 hr9 hl9 [false] ?_
 obtain ⟨pg,view,hW⟩:=ZrH (c:=Cur.new code)
 have hD:=hW.store.disk
 have hS:(Zbr (Cur.new code)).1.ZB=ZtY code:=rfl
 rw [hS] at hD
 have hbig:decide ((1048576:Int)<(code.length:Int))=false:=decide_eq_false (by omega)
 generalize (Zbr (Cur.new code)).1.Zq=ps at hD
 simp -implicitDefEqProofs only [go_sem]
 refine kl_big code rfl ?_
 simp -implicitDefEqProofs only [go_sem,hbig,ZN.cells]
 repeat ((first|refine rq ?_|refine wl ?_|refine gl ?_|refine Zx9 code hl rfl ?_|fail);simp -implicitDefEqProofs only [go_sem,hbig,ZN.cells])
 generalize ZtY code=s at hD ⊢
 obtain ⟨k,c,hlk⟩:=ZiY hD.tree
 have hpl:=(ZgY hD.tree).2
 have hpg:ZqN s.Zc s.Zp.Zy= .tup [.d (.sl (ints (ZaP pg))),.d (.bool true)]:=by unfold ZqN;rw [hlk];rfl
 have hdk:=Zb4 hD.disk
 have hrp:=Zbk hD.disk
 have hnd:=hD.tree.nodup
 have hel:∀x,x∈ZaP pg→2≤x∧x<s.Zp.Zs∧∃n,ZaH (ZU s.Zc x)=some n:=fun x hx=>by
  have hx:=Zbs.mem_iff.1 hx
  have h1:=(hD.part x).2 (.inl hx)
  exact ⟨h1.1,h1.2,hD.tree.read x hx⟩
 have hll:(ZaP pg).length≤131072:=by rw [Zbw];exact hpl
 simp -implicitDefEqProofs only [go_sem,hpg,ZkV]
 repeat ((first|refine rq ?_|refine wl ?_|refine gl ?_|refine ki_PagesOf s.Zc s.Zp.Zy hdk.1 hdk.2 hrp (by simp -implicitDefEqProofs only [go_sem,ZT.cells_eq];first|done|rfl) ?_|fail);simp -implicitDefEqProofs only [go_sem,hpg,ZkV])
 refine ZY (α:=Nat) (fun i=>⟨[(3,.ref 0 0),(4,.d (.sl (ints (ZaP pg)))),(5,.d (.bool true)),(6,.d (.int .i64 i))],[(0,some (.box (sdV s)))]⟩)
  (fun i=>i≤(ZaP pg).length) (fun i=>(ZaP pg).length - i) 0 rfl (Nat.zero_le _) ?_
 rintro i i1
 have hi1:IntKind.i64.wrap ((i:Int)+1)=((i+1:Nat):Int):=ZV (by simp only [LEN];omega)
 simp -implicitDefEqProofs only [go_sem]
 refine fork (fun h5=>?_) (fun h5=>?_)
 ·obtain ⟨x,hx⟩:=Z3 h5
  obtain ⟨e1,e2,n,hn⟩:=hel x (List.mem_of_getElem? hx)
  have d1:decide (x<2)=false:=decide_eq_false (by omega)
  have d2:decide (s.Zp.Zs≤x)=false:=decide_eq_false (by omega)
  cases i with
  |zero=>
   have d3:decide (((0:Nat):Int)>0)=false:=rfl
   simp -implicitDefEqProofs only [go_sem,ZO hx,d1,d2,d3,hn,ZaE,ZkV]
   repeat ((first|refine rq ?_|refine wl ?_|refine gl ?_|refine Zal s.Zc x (by have:=hdk.1;omega) (by have:=hdk.2;omega) (by simp -implicitDefEqProofs only [go_sem,ZT.cells_eq];first|done|rfl) ?_|refine Zas (ZU s.Zc x) (by have:=hrp x;omega) rfl ?_|fail);simp -implicitDefEqProofs only [go_sem,ZO hx,d1,d2,d3,hn,ZaE,ZkV])
   rw [hi1]
   exact ZP 1 rfl (by omega) (by omega)
  |succ j=>
   obtain ⟨y,hy⟩:∃y,(ZaP pg)[j]? =some y:=⟨_,List.getElem?_eq_getElem (by omega)⟩
   have hlt:=ZBO hnd hy hx
   have w3:IntKind.i64.wrap (((j+1:Nat):Int) - 1)=(j:Int):=by rw [Zad (by omega) (by omega)];omega
   have d3:decide ((0:Int)<((j+1:Nat):Int))=true:=decide_eq_true (by omega)
   have d4:decide (x≤y)=false:=decide_eq_false (by omega)
   simp -implicitDefEqProofs only [go_sem,ZO hx,ZO hy,d1,d2,d3,d4,w3,hn,ZaE,ZkV]
   repeat ((first|refine rq ?_|refine wl ?_|refine gl ?_|refine Zal s.Zc x (by have:=hdk.1;omega) (by have:=hdk.2;omega) (by simp -implicitDefEqProofs only [go_sem,ZT.cells_eq];first|done|rfl) ?_|refine Zas (ZU s.Zc x) (by have:=hrp x;omega) rfl ?_|fail);simp -implicitDefEqProofs only [go_sem,ZO hx,ZO hy,d1,d2,d3,d4,w3,hn,ZaE,ZkV])
   rw [hi1]
   exact ZP (j+2) rfl (by omega) (by omega)
 ·rcases hD.tree.root with hr|hr
  ·have hp0:pg=[]:=by
    rcases hD.tree with ⟨_,_,h⟩|⟨h,_⟩
    ·exact h
    ·exact absurd hr h
   subst hp0
   have e0:ZaP []=[]:=rfl
   have d0:decide (s.Zp.Zy=0)=true:=decide_eq_true hr
   simp -implicitDefEqProofs only [go_sem,ZkV,e0,d0,List.length_nil]
   repeat ((first|refine rq ?_|refine wl ?_|refine gl ?_|fail);simp -implicitDefEqProofs only [go_sem,ZkV,e0,d0,List.length_nil])
   try rfl
  ·have hr0:=(hD.part _).2 (.inl hr)
   have d0:decide (s.Zp.Zy=0)=false:=decide_eq_false (by omega)
   have hm:s.Zp.Zy∈ZaP pg:=Zbs.mem_iff.2 hr
   have d1:decide (s.Zp.Zy∈ZaP pg)=true:=decide_eq_true hm
   have hpos:=List.length_pos_of_mem hm
   have d2:decide (((ZaP pg).length:Int)=0)=false:=decide_eq_false (by omega)
   simp -implicitDefEqProofs only [go_sem,ZkV,d0,d1,d2]
   repeat ((first|refine rq ?_|refine wl ?_|refine gl ?_|refine kl_in (ZaP pg) s.Zp.Zy (by simp only [LEN];omega) rfl ?_|fail);simp -implicitDefEqProofs only [go_sem,ZkV,d0,d1,d2])
   try rfl
def ZBN (code:List UInt8) (hl:code.length≤1048576):=kf (ZBK code hl)
theorem ZBJ (code:List UInt8) (hl:code.length≤LEN) (hb:¬code.length≤1048576):ZQ Go.Proofs.Tryz.prog 9 [.d (.sl (bys code))] [] [.dead] (.d (.bool true)) []:=by
 refine cof Go.Proofs.Tryz.func9 hr9 hl9 [false] ?_
 have hbig:decide ((1048576:Int)<(code.length:Int))=true:=decide_eq_true (by omega)
 simp -implicitDefEqProofs only [go_sem]
 refine kl_big code rfl ?_
 simp -implicitDefEqProofs only [go_sem,hbig]
 repeat ((first|refine rq ?_|refine wl ?_|refine gl ?_|fail);simp -implicitDefEqProofs only [go_sem,hbig])
def ZBL (code:List UInt8) (hl:code.length≤LEN) (hb:¬code.length≤1048576):=kf (ZBJ code hl hb)
theorem ZBM (code:List UInt8) (h:code.length≤LEN∧∀x∈code,True):ZQ Go.Proofs.Tryz.prog 9 [.d (.sl (bys code))] [] [.dead] (.d (.bool true)) []:=
 if hl:code.length≤1048576 then ZBK code hl else ZBJ code h.1 hl
end Go.Rx
