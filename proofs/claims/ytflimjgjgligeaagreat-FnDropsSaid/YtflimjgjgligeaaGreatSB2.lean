/-
  Part B2: lemmas on an evaluator over plain data of the model's code, plain laws on lists and numbers, or contracts of functions of the program; each lemma names its conditions.
-/
import Derived.Test.YtflimjgjgligeaaGreatSB1
import Derived.Test.YtflimjgjgligeaaGreatSP3

set_option linter.unusedSimpArgs false
set_option linter.unusedVariables false
set_option maxRecDepth 100000
set_option maxHeartbeats 16000000
namespace Go.Rx
open Go
attribute [local irreducible] Req Way WayG Sel Z2 ZQ Zaz cVC Zai ZaO
def wV (w:ZS):List V:=[.d (.sl (strs w.Zc.Zv)),.d (.sl (Zae w.Zc.Zm)),.d (.int .i64 w.Zs),.d (.sl (ints w.ZH)),.d (.sl (ints w.Zg)),.d (.sl (ints w.Zf))]
theorem Z8 {w:ZS}:wV w=[.d (.sl (strs w.Zc.Zv)),.d (.sl (Zae w.Zc.Zm)),.d (.int .i64 w.Zs),.d (.sl (ints w.ZH)),.d (.sl (ints w.Zg)),.d (.sl (ints w.Zf))]:=rfl
def kkH (kk:List (Key×Int)):List (Nat×AObj):=[(1,.arr 1 (strs (kk.map (·.1)))),(2,.arr 1 (ints (kk.map (·.2))))]
theorem Zan {kk:List (Key×Int)}:kkH kk=[(1,.arr 1 (strs (kk.map (·.1)))),(2,.arr 1 (ints (kk.map (·.2))))]:=rfl
def Zrs (w:ZS) (n:Z1) (b:Bool) (w':ZS) (kk:List (Key×Int)):Prop:=
 ZQ Go.Proofs.Tryz.prog 197 [.ref 0 0,.d (.agg n.cells)] [(0,.box (wV w))] [.ref 0 0,.dead] (.tup [.own 1 0 kk.length,.own 2 0 kk.length,.d (.bool b)]) ((0,.box (wV w'))::kkH kk)
theorem Zue {w:ZS} {n:Z1} {ns:List Z1}:putS w (n::ns)=match putN w n with
  |none=>none
  |some (w1,p)=>(putS w1 ns).map fun r=>(r.1,(Zah n,p)::r.2):=by
 rw [putS];cases putN w n with
 |none=>rfl
 |some q=>obtain ⟨w1,p⟩:=q;simp only;cases putS w1 ns with
  |none=>rfl
  |some r=>rfl
def Zeu (w:ZS) (ns:List Z1):Bool×ZS×List (Key×Int):=match ns with
 |[]=>(true,w,[])
 |n::ns=>match putN w n with
  |none=>(false,w,[])
  |some (w1,p)=>((Zeu w1 ns).1,(Zeu w1 ns).2.1,(Zah n,p)::(Zeu w1 ns).2.2)
theorem Zq5:∀ {ns:List Z1} {w:ZS},match putS w ns with
  |some r=>Zeu w ns=(true,r.1,r.2)
  |none=>(Zeu w ns).1=false
 |[],w=>rfl
 |n::ns,w=>by
  rw [Zue,Zeu];cases putN w n with
  |none=>rfl
  |some q=>
   obtain ⟨w1,p⟩:=q;simp only;have ih:=Zq5 (ns:=ns) (w:=w1);cases hs:putS w1 ns with
   |none=>rw [hs] at ih;exact ih
   |some r=>rw [hs] at ih;simp only at ih;simp [ih]
def ZiL (kk:List (Key×Int)) (r:Bool×ZS×List (Key×Int)):Bool×ZS×List (Key×Int):=(r.1,r.2.1,kk++r.2.2)
theorem ZbZ {kk:List (Key×Int)} {k:Key}:(strs (kk.map (·.1))).take kk.length++[[D.str k]]=strs ((kk.map (·.1))++[k]):=by
 rw [List.take_of_length_le (by simp [strs])];simp [strs]
theorem Zb0 {kk:List (Key×Int)} {k:Int}:(ints (kk.map (·.2))).take kk.length++[[D.int .i64 k]]=ints ((kk.map (·.2))++[k]):=by
 rw [List.take_of_length_le (by simp [ints])];simp [ints]
@[go_sem] def hr197:ZW:=hh [[0,1],[0,3],[0,3,7],[0,3],[0,3,8],[0,3,8,9],[0,3,8,9,10],[0,3,8,9,10],[0,3,8,9,10],[0,3,8,9,10],[0,3,8,9,10],[0,9,10],[0,7],[0,7,11],[0,7,11,12],[0,7,11,12,13],[0,7,11,12,13],[0,7,11,12,13],[0,7,11,12,13,14,15],[0,11,12],[0,7,11,12,13,14,15],[0,7,11,12,13,15],[0,7,11,12,13,15],[0,11,12]]
@[go_sem] def hl197:ZW:=hh [[],[],[],[],[],[],[],[],[],[],[],[],[],[],[],[0,7,11,12,13]]
attribute [go_sem] Go.Proofs.Tryz.results197
set_option maxHeartbeats 4000000 in
theorem Zxu (w:ZS) (n:Z1) (hw:smallW w) (h1:n.Zj.length≤100) (h2:n.Zn=true→n.ZJ.length=n.Zj.length∧n.Zk=[]) (h3:n.Zn=false→n.Zk.length=n.Zj.length∧n.ZJ=[]):
  Zrs w n (Zeu w (Zat n)).1 (Zeu w (Zat n)).2.1 (Zeu w (Zat n)).2.2:=by
 have hsz:∀m∈Zat n,m.Zj.length≤LEN∧m.ZJ.length≤LEN∧m.Zk.length≤LEN:=fun m hm=>by
  have hv:n.ZJ.length≤100:=by
   cases hb:n.Zn with
   |true=>have:=(h2 hb).1;omega
   |false=>rw [(h3 hb).2];simp
  have hk:n.Zk.length≤100:=by
   cases hb:n.Zn with
   |false=>have:=(h3 hb).1;omega
   |true=>rw [(h2 hb).2];simp
  unfold Zat at hm;simp only [LEN];split at hm
  ·simp only [List.mem_cons,List.not_mem_nil,or_false] at hm;rcases hm with rfl|rfl
   ·simp only [List.length_take];omega
   ·simp only [List.length_drop];omega
  ·simp only [List.mem_singleton] at hm;subst hm;omega
 have hl2:(Zat n).length≤2:=by unfold Zat;split<;>simp
 unfold Zrs;by_cases h4:4<n.Zj.length
 ·have d4:decide ((4:Int)<n.Zj.length)=true:=decide_eq_true (by omega);have hns:Zat n=[⟨n.Zn,n.Zj.take 3,n.ZJ.take 3,n.Zk.take 3⟩,⟨n.Zn,n.Zj.drop 3,n.ZJ.drop 3,n.Zk.drop 3⟩]:=by unfold Zat;rw [if_pos h4]
  cases hb:n.Zn with
  |true=>
   obtain ⟨g1,g2⟩:=h2 hb;refine cof Go.Proofs.Tryz.func197 hr197 hl197 [true,false] ?_;simp -implicitDefEqProofs only [go_sem,Z8,Zan,Z1.cells,d4,hb];repeat ((first|refine rq ?_|fail);simp -implicitDefEqProofs only [go_sem,Z8,Zan,Z1.cells,d4,hb])
   have hbeg:(⟨[(0,.ref 0 0),(7,.own 1 0 2),(11,.own 2 0 0),(12,.own 3 0 0),(13,.d (.int .i64 0))],[(0,some (.box (wV w))),(1,some (.arr 4 [[.bool true,.sl ((strs n.Zj).take (Int.toNat 3)),.sl ((strs n.ZJ).take (Int.toNat 3)),.sl []],[.bool true,.sl ((strs n.Zj).drop (Int.toNat 3)),.sl ((strs n.ZJ).drop (Int.toNat 3)),.sl []]])),(2,some (.arr 1 [])),(3,some (.arr 1 []))]⟩:St)=
     ⟨[(0,.ref 0 0),(7,.own 1 0 (Zat n).length),(11,.own 2 0 0),(12,.own 3 0 0),(13,.d (.int .i64 0))],[(0,some (.box (wV w))),(1,some (.arr 4 (Zbq (Zat n)))),(2,some (.arr 1 (strs []))),(3,some (.arr 1 (ints [])))]⟩:=by
    rw [hns];simp [Zbq,Z1.cells,hb,g2,strs,ints]
   refine ZY (α:=Nat×ZS×List (Key×Int)) (fun x=>⟨[(0,.ref 0 0),(7,.own 1 0 (Zat n).length),(11,.own 2 0 x.2.2.length),(12,.own 3 0 x.2.2.length),(13,.d (.int .i64 x.1))],[(0,some (.box (wV x.2.1))),(1,some (.arr 4 (Zbq (Zat n)))),(2,some (.arr 1 (strs (x.2.2.map (·.1))))),(3,some (.arr 1 (ints (x.2.2.map (·.2)))))]⟩)
    (fun x=>x.1≤(Zat n).length∧x.2.2.length=x.1∧smallW x.2.1∧ZiL x.2.2 (Zeu x.2.1 ((Zat n).drop x.1))=Zeu w (Zat n)) (fun x=>(Zat n).length - x.1) (0,w,[]) hbeg ⟨Nat.zero_le _,rfl,hw,rfl⟩ ?_
   rintro ⟨i,u,kk⟩ ⟨i1,i2,i3,i4⟩;simp only at i1 i2 i3 i4;simp -implicitDefEqProofs only [go_sem,ZaV,Z8];refine fork (fun h5=>?_) (fun h5=>?_)
   ·obtain ⟨m,hm⟩:=Z3 h5;have hsm:=hsz m (List.mem_of_getElem? hm);rw [ZbU hm,Zeu] at i4;simp -implicitDefEqProofs only [go_sem,ZbN hm,ZaV,Z8];repeat ((first|refine rq ?_|fail);simp -implicitDefEqProofs only [go_sem,ZbN hm,ZaV,Z8])
    refine Zd3 (xs:=[.agg u.cells,.agg m.cells]) (Zcb u m i3 hsm.1 hsm.2.1 hsm.2.2) (by simp -implicitDefEqProofs only [go_sem,ZS.cells_eq,Z1.cells_eq];first|done|rfl) rfl ?_;cases hp:putN u m with
    |none=>
     have hW:putW u m=(u,0):=by rw [putW,hp]
     rw [hp] at i4;simp only [ZiL,List.append_nil] at i4;rw [←i4,hW];have d0:decide ((0:Int)=0)=true:=rfl;simp -implicitDefEqProofs only [go_sem,d0,Z8,Zan,ZS.cells_eq];repeat ((first|refine rq ?_|fail);simp -implicitDefEqProofs only [go_sem,d0,Z8,Zan,ZS.cells_eq])
    |some q=>
     obtain ⟨u2,pg⟩:=q;have hW:putW u m=(u2,pg):=by rw [putW,hp]
     have dp:decide (pg=0)=false:=decide_eq_false (Zcl hp);have hs2:=ZeE i3 hp;have hmk:ZaA m:=by unfold putN at hp;split at hp;assumption;cases hp
     obtain ⟨kl,hkl⟩:=ZfE hmk;have hk0:lget (strs m.Zj) 0=[.str (Zah m)]:=ZM (by rw [hkl];rfl);have hkn:=hmk.1;rw [hp] at i4;rw [hW];simp -implicitDefEqProofs only [go_sem,dp,Z8,ZS.cells_eq,hk0,ZbZ,Zb0];repeat ((first|refine rq ?_|fail);simp -implicitDefEqProofs only [go_sem,dp,Z8,ZS.cells_eq,hk0,ZbN hm,ZaV,ZbZ,Zb0])
     rw [ZV (by simp only [LEN];omega)];refine ZP (i+1,u2,kk++[(Zah m,pg)]) ?_ ⟨by simp only;omega,by simp;omega,hs2,?_⟩ (by simp only;omega)
     ·simp [strs,ints,Z8]
     ·rw [←i4];simp [ZiL,List.append_assoc]
   ·have:(Zat n).drop i=[]:=List.drop_of_length_le (by omega);rw [this] at i4;simp only [Zeu,ZiL,List.append_nil] at i4;rw [←i4];simp -implicitDefEqProofs only [go_sem,Z8,Zan];repeat ((first|refine rq ?_|fail);simp -implicitDefEqProofs only [go_sem,Z8,Zan])
  |false=>
   obtain ⟨g1,g2⟩:=h3 hb;refine cof Go.Proofs.Tryz.func197 hr197 hl197 [true,false] ?_;simp -implicitDefEqProofs only [go_sem,Z8,Zan,Z1.cells,d4,hb];repeat ((first|refine rq ?_|fail);simp -implicitDefEqProofs only [go_sem,Z8,Zan,Z1.cells,d4,hb])
   have hbeg:(⟨[(0,.ref 0 0),(7,.own 1 0 2),(11,.own 2 0 0),(12,.own 3 0 0),(13,.d (.int .i64 0))],[(0,some (.box (wV w))),(1,some (.arr 4 [[.bool false,.sl ((strs n.Zj).take (Int.toNat 3)),.sl [],.sl ((ints n.Zk).take (Int.toNat 3))],[.bool false,.sl ((strs n.Zj).drop (Int.toNat 3)),.sl [],.sl ((ints n.Zk).drop (Int.toNat 3))]])),(2,some (.arr 1 [])),(3,some (.arr 1 []))]⟩:St)=
     ⟨[(0,.ref 0 0),(7,.own 1 0 (Zat n).length),(11,.own 2 0 0),(12,.own 3 0 0),(13,.d (.int .i64 0))],[(0,some (.box (wV w))),(1,some (.arr 4 (Zbq (Zat n)))),(2,some (.arr 1 (strs []))),(3,some (.arr 1 (ints [])))]⟩:=by
    rw [hns];simp [Zbq,Z1.cells,hb,g2,strs,ints]
   refine ZY (α:=Nat×ZS×List (Key×Int)) (fun x=>⟨[(0,.ref 0 0),(7,.own 1 0 (Zat n).length),(11,.own 2 0 x.2.2.length),(12,.own 3 0 x.2.2.length),(13,.d (.int .i64 x.1))],[(0,some (.box (wV x.2.1))),(1,some (.arr 4 (Zbq (Zat n)))),(2,some (.arr 1 (strs (x.2.2.map (·.1))))),(3,some (.arr 1 (ints (x.2.2.map (·.2)))))]⟩)
    (fun x=>x.1≤(Zat n).length∧x.2.2.length=x.1∧smallW x.2.1∧ZiL x.2.2 (Zeu x.2.1 ((Zat n).drop x.1))=Zeu w (Zat n)) (fun x=>(Zat n).length - x.1) (0,w,[]) hbeg ⟨Nat.zero_le _,rfl,hw,rfl⟩ ?_
   rintro ⟨i,u,kk⟩ ⟨i1,i2,i3,i4⟩;simp only at i1 i2 i3 i4;simp -implicitDefEqProofs only [go_sem,ZaV,Z8];refine fork (fun h5=>?_) (fun h5=>?_)
   ·obtain ⟨m,hm⟩:=Z3 h5;have hsm:=hsz m (List.mem_of_getElem? hm);rw [ZbU hm,Zeu] at i4;simp -implicitDefEqProofs only [go_sem,ZbN hm,ZaV,Z8];repeat ((first|refine rq ?_|fail);simp -implicitDefEqProofs only [go_sem,ZbN hm,ZaV,Z8])
    refine Zd3 (xs:=[.agg u.cells,.agg m.cells]) (Zcb u m i3 hsm.1 hsm.2.1 hsm.2.2) (by simp -implicitDefEqProofs only [go_sem,ZS.cells_eq,Z1.cells_eq];first|done|rfl) rfl ?_;cases hp:putN u m with
    |none=>
     have hW:putW u m=(u,0):=by rw [putW,hp]
     rw [hp] at i4;simp only [ZiL,List.append_nil] at i4;rw [←i4,hW];have d0:decide ((0:Int)=0)=true:=rfl;simp -implicitDefEqProofs only [go_sem,d0,Z8,Zan,ZS.cells_eq];repeat ((first|refine rq ?_|fail);simp -implicitDefEqProofs only [go_sem,d0,Z8,Zan,ZS.cells_eq])
    |some q=>
     obtain ⟨u2,pg⟩:=q;have hW:putW u m=(u2,pg):=by rw [putW,hp]
     have dp:decide (pg=0)=false:=decide_eq_false (Zcl hp);have hs2:=ZeE i3 hp;have hmk:ZaA m:=by unfold putN at hp;split at hp;assumption;cases hp
     obtain ⟨kl,hkl⟩:=ZfE hmk;have hk0:lget (strs m.Zj) 0=[.str (Zah m)]:=ZM (by rw [hkl];rfl);have hkn:=hmk.1;rw [hp] at i4;rw [hW];simp -implicitDefEqProofs only [go_sem,dp,Z8,ZS.cells_eq,hk0,ZbZ,Zb0];repeat ((first|refine rq ?_|fail);simp -implicitDefEqProofs only [go_sem,dp,Z8,ZS.cells_eq,hk0,ZbN hm,ZaV,ZbZ,Zb0])
     rw [ZV (by simp only [LEN];omega)];refine ZP (i+1,u2,kk++[(Zah m,pg)]) ?_ ⟨by simp only;omega,by simp;omega,hs2,?_⟩ (by simp only;omega)
     ·simp [strs,ints,Z8]
     ·rw [←i4];simp [ZiL,List.append_assoc]
   ·have:(Zat n).drop i=[]:=List.drop_of_length_le (by omega);rw [this] at i4;simp only [Zeu,ZiL,List.append_nil] at i4;rw [←i4];simp -implicitDefEqProofs only [go_sem,Z8,Zan];repeat ((first|refine rq ?_|fail);simp -implicitDefEqProofs only [go_sem,Z8,Zan])
 ·have d4:decide ((4:Int)<n.Zj.length)=false:=decide_eq_false (by omega);have hns:Zat n=[n]:=by unfold Zat;rw [if_neg h4]
  refine cof Go.Proofs.Tryz.func197 hr197 hl197 [true,false] ?_;simp -implicitDefEqProofs only [go_sem,Z8,Zan,Z1.cells,d4];repeat ((first|refine rq ?_|fail);simp -implicitDefEqProofs only [go_sem,Z8,Zan,Z1.cells,d4])
  have hbeg:(⟨[(0,.ref 0 0),(7,.own 1 0 1),(11,.own 2 0 0),(12,.own 3 0 0),(13,.d (.int .i64 0))],[(0,some (.box (wV w))),(1,some (.arr 4 [[.bool n.Zn,.sl (strs n.Zj),.sl (strs n.ZJ),.sl (ints n.Zk)]])),(2,some (.arr 1 [])),(3,some (.arr 1 []))]⟩:St)=
    ⟨[(0,.ref 0 0),(7,.own 1 0 (Zat n).length),(11,.own 2 0 0),(12,.own 3 0 0),(13,.d (.int .i64 0))],[(0,some (.box (wV w))),(1,some (.arr 4 (Zbq (Zat n)))),(2,some (.arr 1 (strs []))),(3,some (.arr 1 (ints [])))]⟩:=by
   rw [hns];rfl
  refine ZY (α:=Nat×ZS×List (Key×Int)) (fun x=>⟨[(0,.ref 0 0),(7,.own 1 0 (Zat n).length),(11,.own 2 0 x.2.2.length),(12,.own 3 0 x.2.2.length),(13,.d (.int .i64 x.1))],[(0,some (.box (wV x.2.1))),(1,some (.arr 4 (Zbq (Zat n)))),(2,some (.arr 1 (strs (x.2.2.map (·.1))))),(3,some (.arr 1 (ints (x.2.2.map (·.2)))))]⟩)
   (fun x=>x.1≤(Zat n).length∧x.2.2.length=x.1∧smallW x.2.1∧ZiL x.2.2 (Zeu x.2.1 ((Zat n).drop x.1))=Zeu w (Zat n)) (fun x=>(Zat n).length - x.1) (0,w,[]) hbeg ⟨Nat.zero_le _,rfl,hw,rfl⟩ ?_
  rintro ⟨i,u,kk⟩ ⟨i1,i2,i3,i4⟩;simp only at i1 i2 i3 i4;simp -implicitDefEqProofs only [go_sem,ZaV,Z8];refine fork (fun h5=>?_) (fun h5=>?_)
  ·obtain ⟨m,hm⟩:=Z3 h5;have hsm:=hsz m (List.mem_of_getElem? hm);rw [ZbU hm,Zeu] at i4;simp -implicitDefEqProofs only [go_sem,ZbN hm,ZaV,Z8];repeat ((first|refine rq ?_|fail);simp -implicitDefEqProofs only [go_sem,ZbN hm,ZaV,Z8])
   refine Zd3 (xs:=[.agg u.cells,.agg m.cells]) (Zcb u m i3 hsm.1 hsm.2.1 hsm.2.2) (by simp -implicitDefEqProofs only [go_sem,ZS.cells_eq,Z1.cells_eq];first|done|rfl) rfl ?_;cases hp:putN u m with
   |none=>
    have hW:putW u m=(u,0):=by rw [putW,hp]
    rw [hp] at i4;simp only [ZiL,List.append_nil] at i4;rw [←i4,hW];have d0:decide ((0:Int)=0)=true:=rfl;simp -implicitDefEqProofs only [go_sem,d0,Z8,Zan,ZS.cells_eq];repeat ((first|refine rq ?_|fail);simp -implicitDefEqProofs only [go_sem,d0,Z8,Zan,ZS.cells_eq])
   |some q=>
    obtain ⟨u2,pg⟩:=q;have hW:putW u m=(u2,pg):=by rw [putW,hp]
    have dp:decide (pg=0)=false:=decide_eq_false (Zcl hp);have hs2:=ZeE i3 hp;have hmk:ZaA m:=by unfold putN at hp;split at hp;assumption;cases hp
    obtain ⟨kl,hkl⟩:=ZfE hmk;have hk0:lget (strs m.Zj) 0=[.str (Zah m)]:=ZM (by rw [hkl];rfl);have hkn:=hmk.1;rw [hp] at i4;rw [hW];simp -implicitDefEqProofs only [go_sem,dp,Z8,ZS.cells_eq,hk0,ZbZ,Zb0];repeat ((first|refine rq ?_|fail);simp -implicitDefEqProofs only [go_sem,dp,Z8,ZS.cells_eq,hk0,ZbN hm,ZaV,ZbZ,Zb0])
    rw [ZV (by simp only [LEN];omega)];refine ZP (i+1,u2,kk++[(Zah m,pg)]) ?_ ⟨by simp only;omega,by simp;omega,hs2,?_⟩ (by simp only;omega)
    ·simp [strs,ints,Z8]
    ·rw [←i4];simp [ZiL,List.append_assoc]
  ·have:(Zat n).drop i=[]:=List.drop_of_length_le (by omega);rw [this] at i4;simp only [Zeu,ZiL,List.append_nil] at i4;rw [←i4];simp -implicitDefEqProofs only [go_sem,Z8,Zan];repeat ((first|refine rq ?_|fail);simp -implicitDefEqProofs only [go_sem,Z8,Zan])
end Go.Rx
