/-
  Part B2: lemmas on an evaluator over plain data of the model's code, plain laws on lists and numbers, or contracts of functions of the program; each lemma names its conditions.
-/
import Derived.Test.YtmeinhaecplpkaaGreatRB1
import Derived.Test.YtmeinhaecplpkaaGreatRP3

set_option linter.unusedSimpArgs false
set_option linter.unusedVariables false
namespace Go.Rx
open Go
attribute [local irreducible] Req Way WayG Sel callVC CallOK seqVC cVC loopVC nextK
def wV (w:GWork):List V:=[.d (.sl (strs w.fDisk.fPages)),.d (.sl (GPutS w.fDisk.fLate)),.d (.int .i64 w.fNext),.d (.sl (ints w.fUsable)),.d (.sl (ints w.fGone)),.d (.sl (ints w.fFresh))]
theorem wV_eq {w:GWork}:wV w=[.d (.sl (strs w.fDisk.fPages)),.d (.sl (GPutS w.fDisk.fLate)),.d (.int .i64 w.fNext),.d (.sl (ints w.fUsable)),.d (.sl (ints w.fGone)),.d (.sl (ints w.fFresh))]:=rfl
def kkH (kk:List (Key×Int)):List (Nat×AObj):=[(1,.arr 1 (strs (kk.map (·.1)))),(2,.arr 1 (ints (kk.map (·.2))))]
theorem kkH_eq {kk:List (Key×Int)}:kkH kk=[(1,.arr 1 (strs (kk.map (·.1)))),(2,.arr 1 (ints (kk.map (·.2))))]:=rfl
def HalfOK (w:GWork) (n:GNode) (b:Bool) (w':GWork) (kk:List (Key×Int)):Prop:=
 CallOK Go.Proofs.Tryz.prog 233 [.ref 0 0,.d (.agg n.cells)] [(0,.box (wV w))] [.ref 0 0,.dead] (.tup [.own 1 0 kk.length,.own 2 0 kk.length,.d (.bool b)]) ((0,.box (wV w'))::kkH kk)
theorem putS_cons {w:GWork} {n:GNode} {ns:List GNode}:putS w (n::ns)=match putN w n with
  |none=>none
  |some (w1,p)=>(putS w1 ns).map fun r=>(r.1,(firstKey n,p)::r.2):=by
 rw [putS]
 cases putN w n with
 |none=>rfl
 |some q=>obtain ⟨w1,p⟩:=q;simp only;cases putS w1 ns with
  |none=>rfl
  |some r=>rfl
def halfR (w:GWork) (ns:List GNode):Bool×GWork×List (Key×Int):=match ns with
 |[]=>(true,w,[])
 |n::ns=>match putN w n with
  |none=>(false,w,[])
  |some (w1,p)=>((halfR w1 ns).1,(halfR w1 ns).2.1,(firstKey n,p)::(halfR w1 ns).2.2)
theorem halfR_eq:∀ {ns:List GNode} {w:GWork},match putS w ns with
  |some r=>halfR w ns=(true,r.1,r.2)
  |none=>(halfR w ns).1=false
 |[],w=>rfl
 |n::ns,w=>by
  rw [putS_cons,halfR]
  cases putN w n with
  |none=>rfl
  |some q=>
   obtain ⟨w1,p⟩:=q
   simp only
   have ih:=halfR_eq (ns:=ns) (w:=w1)
   cases hs:putS w1 ns with
   |none=>rw [hs] at ih;exact ih
   |some r=>rw [hs] at ih;simp only at ih;simp [ih]
def kkCat (kk:List (Key×Int)) (r:Bool×GWork×List (Key×Int)):Bool×GWork×List (Key×Int):=(r.1,r.2.1,kk++r.2.2)
theorem strs_kk {kk:List (Key×Int)} {k:Key}:(strs (kk.map (·.1))).take kk.length++[[D.str k]]=strs ((kk.map (·.1))++[k]):=by
 rw [List.take_of_length_le (by simp [strs])];simp [strs]
theorem ints_kk {kk:List (Key×Int)} {k:Int}:(ints (kk.map (·.2))).take kk.length++[[D.int .i64 k]]=ints ((kk.map (·.2))++[k]):=by
 rw [List.take_of_length_le (by simp [ints])];simp [ints]
@[go_sem] def hr233:Hints
 |0=> [0,1]|1=> [0,3]|2=> [0,3,7]|3=> [0,3]|4=> [0,3,8]|5=> [0,3,8,9]|6=> [0,3,8,9,10]|7=> [0,3,8,9,10]|8=> [0,3,8,9,10]|9=> [0,3,8,9,10]|10=> [0,3,8,9,10]|11=> [0,9,10]|12=> [0,7]|13=> [0,7,11]|14=> [0,7,11,12]|15=> [0,7,11,12,13]|16=> [0,7,11,12,13]|17=> [0,7,11,12,13]|18=> [0,7,11,12,13,14,15]|19=> [0,11,12]|20=> [0,7,11,12,13,14,15]|21=> [0,7,11,12,13,15]|22=> [0,7,11,12,13,15]|23=> [0,11,12]|_=> []
@[go_sem] def hl233:Hints
 |15=> [0,7,11,12,13]|_=> []
attribute [go_sem] Go.Proofs.Tryz.results233
set_option maxRecDepth 100000 in
set_option maxHeartbeats 4000000 in
theorem cs_halfR (w:GWork) (n:GNode) (hw:smallW w) (h1:n.fKeys.length≤100) (h2:n.fLeaf=true→n.fVals.length=n.fKeys.length∧n.fKids=[]) (h3:n.fLeaf=false→n.fKids.length=n.fKeys.length∧n.fVals=[]):
  HalfOK w n (halfR w (splitN n)).1 (halfR w (splitN n)).2.1 (halfR w (splitN n)).2.2:=by
 have hsz:∀m∈splitN n,m.fKeys.length≤LEN∧m.fVals.length≤LEN∧m.fKids.length≤LEN:=fun m hm=>by
  have hv:n.fVals.length≤100:=by
   cases hb:n.fLeaf with
   |true=>have:=(h2 hb).1;omega
   |false=>rw [(h3 hb).2];simp
  have hk:n.fKids.length≤100:=by
   cases hb:n.fLeaf with
   |false=>have:=(h3 hb).1;omega
   |true=>rw [(h2 hb).2];simp
  unfold splitN at hm
  simp only [LEN]
  split at hm
  ·simp only [List.mem_cons,List.not_mem_nil,or_false] at hm
   rcases hm with rfl|rfl
   ·simp only [List.length_take];omega
   ·simp only [List.length_drop];omega
  ·simp only [List.mem_singleton] at hm;subst hm;omega
 have hl2:(splitN n).length≤2:=by unfold splitN;split<;>simp
 unfold HalfOK
 by_cases h4:4<n.fKeys.length
 ·have d4:decide ((4:Int)<n.fKeys.length)=true:=decide_eq_true (by omega)
  have hns:splitN n=[⟨n.fLeaf,n.fKeys.take 3,n.fVals.take 3,n.fKids.take 3⟩,⟨n.fLeaf,n.fKeys.drop 3,n.fVals.drop 3,n.fKids.drop 3⟩]:=by unfold splitN;rw [if_pos h4]
  cases hb:n.fLeaf with
  |true=>
   obtain ⟨g1,g2⟩:=h2 hb
   refine call_of tysZOK mixedZ Go.Proofs.Tryz.func233 (by kernel_rfl) rfl (np:=[true,false]) (by kernel_rfl) hr233 hl233 (by simp [Go.Proofs.Tryz.ntmps233]) ?_
   simp -implicitDefEqProofs only [go_sem,wV_eq,kkH_eq,GNode.cells,d4,hb]
   repeat ((first|refine rq ?_|fail);simp -implicitDefEqProofs only [go_sem,wV_eq,kkH_eq,GNode.cells,d4,hb])
   have hbeg:(⟨[(0,.ref 0 0),(7,.own 1 0 2),(11,.own 2 0 0),(12,.own 3 0 0),(13,.d (.int .i64 0))],[(0,some (.box (wV w))),(1,some (.arr 4 [[.bool true,.sl ((strs n.fKeys).take (Int.toNat 3)),.sl ((strs n.fVals).take (Int.toNat 3)),.sl []],[.bool true,.sl ((strs n.fKeys).drop (Int.toNat 3)),.sl ((strs n.fVals).drop (Int.toNat 3)),.sl []]])),(2,some (.arr 1 [])),(3,some (.arr 1 []))]⟩:St)=
     ⟨[(0,.ref 0 0),(7,.own 1 0 (splitN n).length),(11,.own 2 0 0),(12,.own 3 0 0),(13,.d (.int .i64 0))],[(0,some (.box (wV w))),(1,some (.arr 4 (GNodeS (splitN n)))),(2,some (.arr 1 (strs []))),(3,some (.arr 1 (ints [])))]⟩:=by
    rw [hns];simp [GNodeS,GNode.cells,hb,g2,strs,ints]
   refine loop_data (α:=Nat×GWork×List (Key×Int)) (fun x=>⟨[(0,.ref 0 0),(7,.own 1 0 (splitN n).length),(11,.own 2 0 x.2.2.length),(12,.own 3 0 x.2.2.length),(13,.d (.int .i64 x.1))],[(0,some (.box (wV x.2.1))),(1,some (.arr 4 (GNodeS (splitN n)))),(2,some (.arr 1 (strs (x.2.2.map (·.1))))),(3,some (.arr 1 (ints (x.2.2.map (·.2)))))]⟩)
    (fun x=>x.1≤(splitN n).length∧x.2.2.length=x.1∧smallW x.2.1∧kkCat x.2.2 (halfR x.2.1 ((splitN n).drop x.1))=halfR w (splitN n)) (fun x=>(splitN n).length - x.1) (0,w,[]) hbeg ⟨Nat.zero_le _,rfl,hw,rfl⟩ ?_
   rintro ⟨i,u,kk⟩ ⟨i1,i2,i3,i4⟩
   simp only at i1 i2 i3 i4
   simp -implicitDefEqProofs only [go_sem,GNodeS_length,wV_eq]
   (first|(refine way_dec (fun h5=>?_) (fun h5=>?_))|(refine way_ndec (fun h5=>?_) (fun h5=>?_))|(refine wayT_dec (fun h5=>?_) (fun h5=>?_))|(refine wayF_dec (fun h5=>?_) (fun h5=>?_))|(refine wayT_ndec (fun h5=>?_) (fun h5=>?_))|(refine wayF_ndec (fun h5=>?_) (fun h5=>?_))|(refine way_not (fun h5=>?_) (fun h5=>?_))|(refine way (fun h5=>?_) (fun h5=>?_))|(refine wayT (fun h5=>?_) (fun h5=>?_))|(refine wayF (fun h5=>?_) (fun h5=>?_)))
   ·obtain ⟨m,hm⟩:=some_at h5
    have hsm:=hsz m (List.mem_of_getElem? hm)
    rw [drop_cons hm,halfR] at i4
    simp -implicitDefEqProofs only [go_sem,lget_GNodeS hm,GNodeS_length,wV_eq]
    repeat ((first|refine rq ?_|fail);simp -implicitDefEqProofs only [go_sem,lget_GNodeS hm,GNodeS_length,wV_eq])
    refine kdata (xs:=[.agg u.cells,.agg m.cells]) (cs_PutNodeF u m i3 hsm.1 hsm.2.1 hsm.2.2) (by simp -implicitDefEqProofs only [go_sem,GWork.cells_eq,GNode.cells_eq];first|done|rfl) rfl ?_
    cases hp:putN u m with
    |none=>
     have hW:putW u m=(u,0):=by rw [putW,hp]
     rw [hp] at i4
     simp only [kkCat,List.append_nil] at i4
     rw [←i4,hW]
     have d0:decide ((0:Int)=0)=true:=rfl
     simp -implicitDefEqProofs only [go_sem,d0,wV_eq,kkH_eq,GWork.cells_eq]
     repeat ((first|refine rq ?_|fail);simp -implicitDefEqProofs only [go_sem,d0,wV_eq,kkH_eq,GWork.cells_eq])
    |some q=>
     obtain ⟨u2,pg⟩:=q
     have hW:putW u m=(u2,pg):=by rw [putW,hp]
     have dp:decide (pg=0)=false:=decide_eq_false (putN_page hp)
     have hs2:=putN_small i3 hp
     have hmk:nodeOk m:=by unfold putN at hp;split at hp;assumption;cases hp
     obtain ⟨kl,hkl⟩:=first_mem hmk
     have hk0:lget (strs m.fKeys) 0=[.str (firstKey m)]:=lget_strs (by rw [hkl];rfl)
     have hkn:=hmk.1
     rw [hp] at i4
     rw [hW]
     simp -implicitDefEqProofs only [go_sem,dp,wV_eq,GWork.cells_eq,hk0,strs_kk,ints_kk]
     repeat ((first|refine rq ?_|fail);simp -implicitDefEqProofs only [go_sem,dp,wV_eq,GWork.cells_eq,hk0,lget_GNodeS hm,GNodeS_length,strs_kk,ints_kk])
     rw [wrap_succ (by simp only [LEN];omega)]
     refine next_data (i+1,u2,kk++[(firstKey m,pg)]) ?_ ⟨by simp only;omega,by simp;omega,hs2,?_⟩ (by simp only;omega)
     ·simp [strs,ints,wV_eq]
     ·rw [←i4];simp [kkCat,List.append_assoc]
   ·have:(splitN n).drop i=[]:=List.drop_of_length_le (by omega)
    rw [this] at i4
    simp only [halfR,kkCat,List.append_nil] at i4
    rw [←i4]
    simp -implicitDefEqProofs only [go_sem,wV_eq,kkH_eq]
    repeat ((first|refine rq ?_|fail);simp -implicitDefEqProofs only [go_sem,wV_eq,kkH_eq])
  |false=>
   obtain ⟨g1,g2⟩:=h3 hb
   refine call_of tysZOK mixedZ Go.Proofs.Tryz.func233 (by kernel_rfl) rfl (np:=[true,false]) (by kernel_rfl) hr233 hl233 (by simp [Go.Proofs.Tryz.ntmps233]) ?_
   simp -implicitDefEqProofs only [go_sem,wV_eq,kkH_eq,GNode.cells,d4,hb]
   repeat ((first|refine rq ?_|fail);simp -implicitDefEqProofs only [go_sem,wV_eq,kkH_eq,GNode.cells,d4,hb])
   have hbeg:(⟨[(0,.ref 0 0),(7,.own 1 0 2),(11,.own 2 0 0),(12,.own 3 0 0),(13,.d (.int .i64 0))],[(0,some (.box (wV w))),(1,some (.arr 4 [[.bool false,.sl ((strs n.fKeys).take (Int.toNat 3)),.sl [],.sl ((ints n.fKids).take (Int.toNat 3))],[.bool false,.sl ((strs n.fKeys).drop (Int.toNat 3)),.sl [],.sl ((ints n.fKids).drop (Int.toNat 3))]])),(2,some (.arr 1 [])),(3,some (.arr 1 []))]⟩:St)=
     ⟨[(0,.ref 0 0),(7,.own 1 0 (splitN n).length),(11,.own 2 0 0),(12,.own 3 0 0),(13,.d (.int .i64 0))],[(0,some (.box (wV w))),(1,some (.arr 4 (GNodeS (splitN n)))),(2,some (.arr 1 (strs []))),(3,some (.arr 1 (ints [])))]⟩:=by
    rw [hns];simp [GNodeS,GNode.cells,hb,g2,strs,ints]
   refine loop_data (α:=Nat×GWork×List (Key×Int)) (fun x=>⟨[(0,.ref 0 0),(7,.own 1 0 (splitN n).length),(11,.own 2 0 x.2.2.length),(12,.own 3 0 x.2.2.length),(13,.d (.int .i64 x.1))],[(0,some (.box (wV x.2.1))),(1,some (.arr 4 (GNodeS (splitN n)))),(2,some (.arr 1 (strs (x.2.2.map (·.1))))),(3,some (.arr 1 (ints (x.2.2.map (·.2)))))]⟩)
    (fun x=>x.1≤(splitN n).length∧x.2.2.length=x.1∧smallW x.2.1∧kkCat x.2.2 (halfR x.2.1 ((splitN n).drop x.1))=halfR w (splitN n)) (fun x=>(splitN n).length - x.1) (0,w,[]) hbeg ⟨Nat.zero_le _,rfl,hw,rfl⟩ ?_
   rintro ⟨i,u,kk⟩ ⟨i1,i2,i3,i4⟩
   simp only at i1 i2 i3 i4
   simp -implicitDefEqProofs only [go_sem,GNodeS_length,wV_eq]
   (first|(refine way_dec (fun h5=>?_) (fun h5=>?_))|(refine way_ndec (fun h5=>?_) (fun h5=>?_))|(refine wayT_dec (fun h5=>?_) (fun h5=>?_))|(refine wayF_dec (fun h5=>?_) (fun h5=>?_))|(refine wayT_ndec (fun h5=>?_) (fun h5=>?_))|(refine wayF_ndec (fun h5=>?_) (fun h5=>?_))|(refine way_not (fun h5=>?_) (fun h5=>?_))|(refine way (fun h5=>?_) (fun h5=>?_))|(refine wayT (fun h5=>?_) (fun h5=>?_))|(refine wayF (fun h5=>?_) (fun h5=>?_)))
   ·obtain ⟨m,hm⟩:=some_at h5
    have hsm:=hsz m (List.mem_of_getElem? hm)
    rw [drop_cons hm,halfR] at i4
    simp -implicitDefEqProofs only [go_sem,lget_GNodeS hm,GNodeS_length,wV_eq]
    repeat ((first|refine rq ?_|fail);simp -implicitDefEqProofs only [go_sem,lget_GNodeS hm,GNodeS_length,wV_eq])
    refine kdata (xs:=[.agg u.cells,.agg m.cells]) (cs_PutNodeF u m i3 hsm.1 hsm.2.1 hsm.2.2) (by simp -implicitDefEqProofs only [go_sem,GWork.cells_eq,GNode.cells_eq];first|done|rfl) rfl ?_
    cases hp:putN u m with
    |none=>
     have hW:putW u m=(u,0):=by rw [putW,hp]
     rw [hp] at i4
     simp only [kkCat,List.append_nil] at i4
     rw [←i4,hW]
     have d0:decide ((0:Int)=0)=true:=rfl
     simp -implicitDefEqProofs only [go_sem,d0,wV_eq,kkH_eq,GWork.cells_eq]
     repeat ((first|refine rq ?_|fail);simp -implicitDefEqProofs only [go_sem,d0,wV_eq,kkH_eq,GWork.cells_eq])
    |some q=>
     obtain ⟨u2,pg⟩:=q
     have hW:putW u m=(u2,pg):=by rw [putW,hp]
     have dp:decide (pg=0)=false:=decide_eq_false (putN_page hp)
     have hs2:=putN_small i3 hp
     have hmk:nodeOk m:=by unfold putN at hp;split at hp;assumption;cases hp
     obtain ⟨kl,hkl⟩:=first_mem hmk
     have hk0:lget (strs m.fKeys) 0=[.str (firstKey m)]:=lget_strs (by rw [hkl];rfl)
     have hkn:=hmk.1
     rw [hp] at i4
     rw [hW]
     simp -implicitDefEqProofs only [go_sem,dp,wV_eq,GWork.cells_eq,hk0,strs_kk,ints_kk]
     repeat ((first|refine rq ?_|fail);simp -implicitDefEqProofs only [go_sem,dp,wV_eq,GWork.cells_eq,hk0,lget_GNodeS hm,GNodeS_length,strs_kk,ints_kk])
     rw [wrap_succ (by simp only [LEN];omega)]
     refine next_data (i+1,u2,kk++[(firstKey m,pg)]) ?_ ⟨by simp only;omega,by simp;omega,hs2,?_⟩ (by simp only;omega)
     ·simp [strs,ints,wV_eq]
     ·rw [←i4];simp [kkCat,List.append_assoc]
   ·have:(splitN n).drop i=[]:=List.drop_of_length_le (by omega)
    rw [this] at i4
    simp only [halfR,kkCat,List.append_nil] at i4
    rw [←i4]
    simp -implicitDefEqProofs only [go_sem,wV_eq,kkH_eq]
    repeat ((first|refine rq ?_|fail);simp -implicitDefEqProofs only [go_sem,wV_eq,kkH_eq])
 ·have d4:decide ((4:Int)<n.fKeys.length)=false:=decide_eq_false (by omega)
  have hns:splitN n=[n]:=by unfold splitN;rw [if_neg h4]
  refine call_of tysZOK mixedZ Go.Proofs.Tryz.func233 (by kernel_rfl) rfl (np:=[true,false]) (by kernel_rfl) hr233 hl233 (by simp [Go.Proofs.Tryz.ntmps233]) ?_
  simp -implicitDefEqProofs only [go_sem,wV_eq,kkH_eq,GNode.cells,d4]
  repeat ((first|refine rq ?_|fail);simp -implicitDefEqProofs only [go_sem,wV_eq,kkH_eq,GNode.cells,d4])
  have hbeg:(⟨[(0,.ref 0 0),(7,.own 1 0 1),(11,.own 2 0 0),(12,.own 3 0 0),(13,.d (.int .i64 0))],[(0,some (.box (wV w))),(1,some (.arr 4 [[.bool n.fLeaf,.sl (strs n.fKeys),.sl (strs n.fVals),.sl (ints n.fKids)]])),(2,some (.arr 1 [])),(3,some (.arr 1 []))]⟩:St)=
    ⟨[(0,.ref 0 0),(7,.own 1 0 (splitN n).length),(11,.own 2 0 0),(12,.own 3 0 0),(13,.d (.int .i64 0))],[(0,some (.box (wV w))),(1,some (.arr 4 (GNodeS (splitN n)))),(2,some (.arr 1 (strs []))),(3,some (.arr 1 (ints [])))]⟩:=by
   rw [hns];rfl
  refine loop_data (α:=Nat×GWork×List (Key×Int)) (fun x=>⟨[(0,.ref 0 0),(7,.own 1 0 (splitN n).length),(11,.own 2 0 x.2.2.length),(12,.own 3 0 x.2.2.length),(13,.d (.int .i64 x.1))],[(0,some (.box (wV x.2.1))),(1,some (.arr 4 (GNodeS (splitN n)))),(2,some (.arr 1 (strs (x.2.2.map (·.1))))),(3,some (.arr 1 (ints (x.2.2.map (·.2)))))]⟩)
   (fun x=>x.1≤(splitN n).length∧x.2.2.length=x.1∧smallW x.2.1∧kkCat x.2.2 (halfR x.2.1 ((splitN n).drop x.1))=halfR w (splitN n)) (fun x=>(splitN n).length - x.1) (0,w,[]) hbeg ⟨Nat.zero_le _,rfl,hw,rfl⟩ ?_
  rintro ⟨i,u,kk⟩ ⟨i1,i2,i3,i4⟩
  simp only at i1 i2 i3 i4
  simp -implicitDefEqProofs only [go_sem,GNodeS_length,wV_eq]
  (first|(refine way_dec (fun h5=>?_) (fun h5=>?_))|(refine way_ndec (fun h5=>?_) (fun h5=>?_))|(refine wayT_dec (fun h5=>?_) (fun h5=>?_))|(refine wayF_dec (fun h5=>?_) (fun h5=>?_))|(refine wayT_ndec (fun h5=>?_) (fun h5=>?_))|(refine wayF_ndec (fun h5=>?_) (fun h5=>?_))|(refine way_not (fun h5=>?_) (fun h5=>?_))|(refine way (fun h5=>?_) (fun h5=>?_))|(refine wayT (fun h5=>?_) (fun h5=>?_))|(refine wayF (fun h5=>?_) (fun h5=>?_)))
  ·obtain ⟨m,hm⟩:=some_at h5
   have hsm:=hsz m (List.mem_of_getElem? hm)
   rw [drop_cons hm,halfR] at i4
   simp -implicitDefEqProofs only [go_sem,lget_GNodeS hm,GNodeS_length,wV_eq]
   repeat ((first|refine rq ?_|fail);simp -implicitDefEqProofs only [go_sem,lget_GNodeS hm,GNodeS_length,wV_eq])
   refine kdata (xs:=[.agg u.cells,.agg m.cells]) (cs_PutNodeF u m i3 hsm.1 hsm.2.1 hsm.2.2) (by simp -implicitDefEqProofs only [go_sem,GWork.cells_eq,GNode.cells_eq];first|done|rfl) rfl ?_
   cases hp:putN u m with
   |none=>
    have hW:putW u m=(u,0):=by rw [putW,hp]
    rw [hp] at i4
    simp only [kkCat,List.append_nil] at i4
    rw [←i4,hW]
    have d0:decide ((0:Int)=0)=true:=rfl
    simp -implicitDefEqProofs only [go_sem,d0,wV_eq,kkH_eq,GWork.cells_eq]
    repeat ((first|refine rq ?_|fail);simp -implicitDefEqProofs only [go_sem,d0,wV_eq,kkH_eq,GWork.cells_eq])
   |some q=>
    obtain ⟨u2,pg⟩:=q
    have hW:putW u m=(u2,pg):=by rw [putW,hp]
    have dp:decide (pg=0)=false:=decide_eq_false (putN_page hp)
    have hs2:=putN_small i3 hp
    have hmk:nodeOk m:=by unfold putN at hp;split at hp;assumption;cases hp
    obtain ⟨kl,hkl⟩:=first_mem hmk
    have hk0:lget (strs m.fKeys) 0=[.str (firstKey m)]:=lget_strs (by rw [hkl];rfl)
    have hkn:=hmk.1
    rw [hp] at i4
    rw [hW]
    simp -implicitDefEqProofs only [go_sem,dp,wV_eq,GWork.cells_eq,hk0,strs_kk,ints_kk]
    repeat ((first|refine rq ?_|fail);simp -implicitDefEqProofs only [go_sem,dp,wV_eq,GWork.cells_eq,hk0,lget_GNodeS hm,GNodeS_length,strs_kk,ints_kk])
    rw [wrap_succ (by simp only [LEN];omega)]
    refine next_data (i+1,u2,kk++[(firstKey m,pg)]) ?_ ⟨by simp only;omega,by simp;omega,hs2,?_⟩ (by simp only;omega)
    ·simp [strs,ints,wV_eq]
    ·rw [←i4];simp [kkCat,List.append_assoc]
  ·have:(splitN n).drop i=[]:=List.drop_of_length_le (by omega)
   rw [this] at i4
   simp only [halfR,kkCat,List.append_nil] at i4
   rw [←i4]
   simp -implicitDefEqProofs only [go_sem,wV_eq,kkH_eq]
   repeat ((first|refine rq ?_|fail);simp -implicitDefEqProofs only [go_sem,wV_eq,kkH_eq])
end Go.Rx
