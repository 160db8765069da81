/-
  Part A7: lemmas on an evaluator over plain data of the model's code, plain laws on lists and numbers, or contracts of functions of the program; each lemma names its conditions.
-/
import Derived.Test.YtmeinhaecplpkaaGreatRA6
import Derived.Test.YtmeinhaecplpkaaGreatRP1

set_option linter.unusedSimpArgs false
set_option linter.unusedVariables false
namespace Go.Rx
open Go
attribute [local irreducible] Req Way WayG Sel callVC CallOK seqVC cVC loopVC nextK
def buildV (w:GWork) (l:List GPair):V:=match buildS w l with
 |none=> .tup [.d (.agg w.cells),.d (.int .i64 0),.d (.bool false)]
 |some (w',p)=> .tup [.d (.agg w'.cells),.d (.int .i64 p),.d (.bool true)]
theorem asc_one {l:List (List UInt8)}:ascK (l.take 1):=by
 cases l with
 |nil=>simp [ascK]
 |cons x l=>simp [ascK]
@[go_sem] def hr40:Hints
 |0=> [0,1]|1=> [1,2,4]|2=> [1,2,4,7]|3=> [1,2,4,7,8]|4=> [1,2,4,7,8]|5=> [1,2,4,7,8]|6=> [4,7]|7=> [1,2,4,7]|8=> [4,7]|9=> [1,2,4,7]|10=> [1,4,7,9]|11=> [1,4,7,9,10]|12=> [1,4,7,9,10,11]|13=> [1,4,7,9,10,11,12]|14=> [1,4,7,9,10,11,12]|15=> [1,4,7,9,10,11,12]|16=> [1,4,7,9,10,11,12,13]|17=> [1,4,7,9,10,11,12,13,14]|18=> [1,4,7,9,10,11,12,13,14]|19=> [1,4,7,9,10,11,12,13,14]|20=> [1,4,7,9,10,11,12,13,14]|21=> [1,4,7,9,10,11,12,13]|22=> [1,4,7,9,10,11,12,13,15,16]|23=> [4,7]|24=> [1,4,7,9,10,11,12,13,15,16]|25=> [1,4,7,9,10,11,12,13,16]|26=> [1,4,7,9,10,11,12,16]|27=> [4,7,9,10,11]|28=> [4,7,9,10,11]|29=> [4,7,9,10,11,17]|30=> [4,7,9,10,11,17,18]|31=> [4,7,9,10,11,17,18,19]|32=> [4,7,9,10,11,17,18,19]|33=> [4,7,9,10,11,17,18,19]|34=> [4,7,9,10,11,17,18,19,20]|35=> [4,7,9,10,11,17,18,19]|36=> [4,7,9,10,11,17,18,19,20]|37=> [4,7,9,10,11,17,18,19,21,22]|38=> [4,7]|39=> [4,7,9,10,11,17,18,19,21,22]|40=> [4,7,9,10,11,17,18,19,22]|41=> [4,7,9,10,11,17,18,19,22]|42=> [4,7,9,17,18]|43=> [4,7,9,10,18]|44=> [4,9,11]|_=> []
@[go_sem] def hl40:Hints
 |3=> [1,2,4,7,8]|13=> [1,4,7,9,10,11,12]|17=> [1,4,7,9,10,11,12,13,14]|27=> [4,7,9,10,11]|31=> [4,7,9,10,11,17,18,19]|_=> []
attribute [go_sem] Go.Proofs.Tryz.results40
set_option maxRecDepth 100000 in
set_option maxHeartbeats 20000000 in
theorem cs_BuildTree (w:GWork) (l:List GPair) (hw:smallW w) (hl:l.length≤1048576):CallOK Go.Proofs.Tryz.prog 40 [.d (.agg w.cells),.d (.sl (GPairS l))] [] [.dead,.dead] (buildV w l) []:=by
 refine call_fr tysZOK mixedZ Go.Proofs.Tryz.func40 (by kernel_rfl) rfl (by kernel_rfl) hr40 hl40 (by simp [Go.Proofs.Tryz.ntmps40]) rfl ?_
 simp -implicitDefEqProofs only [go_sem,GWork.cells]
 refine ks_l08Copy w hw rfl ?_
 simp -implicitDefEqProofs only [go_sem]
 repeat ((first|refine rq ?_|fail);simp -implicitDefEqProofs only [go_sem])
 refine loop_data (α:=Nat) (fun i=>⟨[(1,.d (.sl (GPairS l))),(2,.ref 0 0),(4,.ref 1 0),(7,.ref 7 0),(8,.d (.int .i64 ((i+1:Nat):Int)))],
  [(0,some (.box [.d (.sl (strs w.fDisk.fPages)),.d (.sl (GPutS w.fDisk.fLate)),.d (.int .i64 w.fNext),.d (.sl (ints w.fUsable)),.d (.sl (ints w.fGone)),.d (.sl (ints w.fFresh))])),(1,some (.box [.own 2 0 0,.own 3 0 0,.d (.int .i64 0),.own 4 0 0,.own 5 0 0,.own 6 0 0])),(2,some (.arr 1 [])),(3,some (.arr 2 [])),(4,some (.arr 1 [])),(5,some (.arr 1 [])),(6,some (.arr 1 [])),(7,some (.box [.own 8 0 w.fDisk.fPages.length,.own 9 0 w.fDisk.fLate.length,.d (.int .i64 w.fNext),.own 10 0 w.fUsable.length,.own 11 0 w.fGone.length,.own 12 0 w.fFresh.length])),(8,some (.arr 1 (strs w.fDisk.fPages))),(9,some (.arr 2 (GPutS w.fDisk.fLate))),(10,some (.arr 1 (ints w.fUsable))),(11,some (.arr 1 (ints w.fGone))),(12,some (.arr 1 (ints w.fFresh)))]⟩)
  (fun i=>i≤l.length∧ascK ((l.map (·.fKey)).take (i+1))) (fun i=>l.length - i) 0 rfl ⟨by omega,asc_one⟩ ?_
 rintro i ⟨i1,i2⟩
 simp -implicitDefEqProofs only [go_sem]
 (first|(refine way_dec (fun h5=>?_) (fun h5=>?_))|(refine way_ndec (fun h5=>?_) (fun h5=>?_))|(refine wayT_dec (fun h5=>?_) (fun h5=>?_))|(refine wayF_dec (fun h5=>?_) (fun h5=>?_))|(refine wayT_ndec (fun h5=>?_) (fun h5=>?_))|(refine wayF_ndec (fun h5=>?_) (fun h5=>?_))|(refine way_not (fun h5=>?_) (fun h5=>?_))|(refine way (fun h5=>?_) (fun h5=>?_))|(refine wayT (fun h5=>?_) (fun h5=>?_))|(refine wayF (fun h5=>?_) (fun h5=>?_)))
 ·obtain ⟨p,hp⟩:=some_at (l:=l) (i:=i+1) (by omega)
  obtain ⟨q,hq⟩:=some_at (l:=l) (i:=i) (by omega)
  have hpk:(l.map (·.fKey))[i+1]? =some p.fKey:=by rw [List.getElem?_map,hp];rfl
  have hqk:(l.map (·.fKey))[i]? =some q.fKey:=by rw [List.getElem?_map,hq];rfl
  have hj:IntKind.i64.wrap (((i+1:Nat):Int) - 1)=(i:Int):=by rw [wrap_int (by omega) (by omega)];omega
  simp -implicitDefEqProofs only [go_sem,hj,lget_GPairS hp,lget_GPairS hq]
  repeat ((first|refine rq ?_|fail);simp -implicitDefEqProofs only [go_sem,hj,lget_GPairS hp,lget_GPairS hq])
  cases hlt:bLess q.fKey p.fKey
  ·simp -implicitDefEqProofs only [go_sem]
   repeat ((first|refine rq ?_|fail);simp -implicitDefEqProofs only [go_sem])
   have hn:¬ascK (l.map (·.fKey)):=fun h=>by rw [asc_next h hqk hpk] at hlt;cases hlt
   rw [buildV,buildS,if_neg hn]
   rfl
  ·simp -implicitDefEqProofs only [go_sem]
   repeat ((first|refine rq ?_|fail);simp -implicitDefEqProofs only [go_sem])
   rw [wrap_succ (by simp only [LEN];omega)]
   refine next_data (i+1) rfl ⟨by omega,ascK_snoc i2 hqk hpk hlt⟩ (by omega)
 ·have hasc:ascK (l.map (·.fKey)):=by rw [List.take_of_length_le (by simp;omega)] at i2;exact i2
  rw [buildV,buildS,if_pos hasc]
  cases hl0:decide ((l.length:Int)=0)
  ·simp -implicitDefEqProofs only [go_sem,hl0]
   repeat ((first|refine rq ?_|refine ks_l08Copy w hw rfl ?_|fail);simp -implicitDefEqProofs only [go_sem,hl0])
   refine loop_data (α:=Nat×GWork×List GKid) (fun x=>⟨[(1,.d (.sl (GPairS l))),(4,.ref 0 0),(7,.ref 6 0),(9,.ref 12 0),(10,.own 18 0 x.2.2.length),(11,.own 19 0 x.2.2.length),(12,.d (.int .i64 ((4*x.1:Nat):Int)))],
    [(0,some (.box [.own 1 0 0,.own 2 0 0,.d (.int .i64 0),.own 3 0 0,.own 4 0 0,.own 5 0 0])),(1,some (.arr 1 [])),(2,some (.arr 2 [])),(3,some (.arr 1 [])),(4,some (.arr 1 [])),(5,some (.arr 1 [])),(6,some (.box [.own 7 0 w.fDisk.fPages.length,.own 8 0 w.fDisk.fLate.length,.d (.int .i64 w.fNext),.own 9 0 w.fUsable.length,.own 10 0 w.fGone.length,.own 11 0 w.fFresh.length])),(7,some (.arr 1 (strs w.fDisk.fPages))),(8,some (.arr 2 (GPutS w.fDisk.fLate))),(9,some (.arr 1 (ints w.fUsable))),(10,some (.arr 1 (ints w.fGone))),(11,some (.arr 1 (ints w.fFresh))),(12,some (.box [.own 13 0 x.2.1.fDisk.fPages.length,.own 14 0 x.2.1.fDisk.fLate.length,.d (.int .i64 x.2.1.fNext),.own 15 0 x.2.1.fUsable.length,.own 16 0 x.2.1.fGone.length,.own 17 0 x.2.1.fFresh.length])),(13,some (.arr 1 (strs x.2.1.fDisk.fPages))),(14,some (.arr 2 (GPutS x.2.1.fDisk.fLate))),(15,some (.arr 1 (ints x.2.1.fUsable))),(16,some (.arr 1 (ints x.2.1.fGone))),(17,some (.arr 1 (ints x.2.1.fFresh))),(18,some (.arr 1 (strs (x.2.2.map (·.fName))))),(19,some (.arr 1 (ints (x.2.2.map (·.fKind)))))]⟩)
    (fun x=>4*x.1≤l.length+3∧smallW x.2.1∧x.2.2.length=x.1∧leavesS x.2.1 x.2.2 (chunk4 (l.drop (4*x.1)))=leavesS w [] (chunk4 l)) (fun x=>l.length+4 - 4*x.1) (0,w,[]) rfl ⟨by omega,hw,rfl,by rw [Nat.mul_zero,List.drop_zero]⟩ ?_
   rintro ⟨j,u,out⟩ ⟨j1,j2,j3,j4⟩
   simp only at j1 j2 j3 j4
   simp -implicitDefEqProofs only [go_sem]
   (first|(refine way_dec (fun h6=>?_) (fun h6=>?_))|(refine way_ndec (fun h6=>?_) (fun h6=>?_))|(refine wayT_dec (fun h6=>?_) (fun h6=>?_))|(refine wayF_dec (fun h6=>?_) (fun h6=>?_))|(refine wayT_ndec (fun h6=>?_) (fun h6=>?_))|(refine wayF_ndec (fun h6=>?_) (fun h6=>?_))|(refine way_not (fun h6=>?_) (fun h6=>?_))|(refine way (fun h6=>?_) (fun h6=>?_))|(refine wayT (fun h6=>?_) (fun h6=>?_))|(refine wayF (fun h6=>?_) (fun h6=>?_)))
   ·obtain ⟨b,hb2⟩:∃b,b=(l.drop (4*j)).take 4:=⟨_,rfl⟩
    have hbl:b.length=min 4 (l.length - 4*j):=by rw [hb2];simp
    have w4:IntKind.i64.wrap (((4*j:Nat):Int)+4)=((4*(j+1):Nat):Int):=by rw [wrap_int (by omega) (by omega)];omega
    simp -implicitDefEqProofs only [go_sem]
    refine loop_data (α:=Nat) (fun i=>⟨[(1,.d (.sl (GPairS l))),(4,.ref 0 0),(7,.ref 6 0),(9,.ref 12 0),(10,.own 18 0 out.length),(11,.own 19 0 out.length),(12,.d (.int .i64 ((4*j:Nat):Int))),(13,.ref 20 0),(14,.d (.int .i64 ((4*j+i:Nat):Int)))],
     [(0,some (.box [.own 1 0 0,.own 2 0 0,.d (.int .i64 0),.own 3 0 0,.own 4 0 0,.own 5 0 0])),(1,some (.arr 1 [])),(2,some (.arr 2 [])),(3,some (.arr 1 [])),(4,some (.arr 1 [])),(5,some (.arr 1 [])),(6,some (.box [.own 7 0 w.fDisk.fPages.length,.own 8 0 w.fDisk.fLate.length,.d (.int .i64 w.fNext),.own 9 0 w.fUsable.length,.own 10 0 w.fGone.length,.own 11 0 w.fFresh.length])),(7,some (.arr 1 (strs w.fDisk.fPages))),(8,some (.arr 2 (GPutS w.fDisk.fLate))),(9,some (.arr 1 (ints w.fUsable))),(10,some (.arr 1 (ints w.fGone))),(11,some (.arr 1 (ints w.fFresh))),(12,some (.box [.own 13 0 u.fDisk.fPages.length,.own 14 0 u.fDisk.fLate.length,.d (.int .i64 u.fNext),.own 15 0 u.fUsable.length,.own 16 0 u.fGone.length,.own 17 0 u.fFresh.length])),(13,some (.arr 1 (strs u.fDisk.fPages))),(14,some (.arr 2 (GPutS u.fDisk.fLate))),(15,some (.arr 1 (ints u.fUsable))),(16,some (.arr 1 (ints u.fGone))),(17,some (.arr 1 (ints u.fFresh))),(18,some (.arr 1 (strs (out.map (·.fName))))),(19,some (.arr 1 (ints (out.map (·.fKind))))),(20,some (.box [.d (.bool true),.own 21 0 ((b.take i).map (·.fKey)).length,.own 22 0 ((b.take i).map (·.fVal)).length,.own 23 0 0])),(21,some (.arr 1 (strs ((b.take i).map (·.fKey))))),(22,some (.arr 1 (strs ((b.take i).map (·.fVal))))),(23,some (.arr 1 []))]⟩)
     (fun i=>i≤b.length) (fun i=>b.length - i) 0 rfl (Nat.zero_le _) ?_
    rintro i k1
    simp -implicitDefEqProofs only [go_sem,w4]
    by_cases h7:i<b.length
    ·obtain ⟨p,hp⟩:=some_at (l:=b) (i:=i) (by omega)
     have hpl:l[4*j+i]? =some p:=by
      rw [hb2,List.getElem?_take,if_pos (by omega),List.getElem?_drop] at hp
      exact hp
     have da:decide (((4*j+i:Nat):Int)<(l.length:Int))=true:=decide_eq_true (by omega)
     have db:decide (((4*j+i:Nat):Int)<((4*(j+1):Nat):Int))=true:=decide_eq_true (by omega)
     simp -implicitDefEqProofs only [go_sem,da,db,w4,lget_GPairS hpl]
     repeat ((first|refine rq ?_|fail);simp -implicitDefEqProofs only [go_sem,da,db,w4,lget_GPairS hpl])
     refine next_data (i+1) ?_ (by omega) (by omega)
     rw [take_snoc hp,wrap_succ (by simp only [LEN];omega)]
     simp [Nat.add_assoc]
    ·have hb0:0<b.length:=by omega
     have hm:b.length≤4:=by omega
     have hk0:lget (strs (b.map (·.fKey))) 0=[.str (key1 b)]:=by
      cases b with
      |nil=>simp at hb0
      |cons x xs=>rfl
     by_cases ha:((4*j+i:Nat):Int)<(l.length:Int)
     have da:=decide_eq_true ha
     have db:decide (((4*j+i:Nat):Int)<((4*(j+1):Nat):Int))=false:=decide_eq_false (by omega)
     simp -implicitDefEqProofs only [go_sem,da,db,w4]
     repeat ((first|refine rq ?_|fail);simp -implicitDefEqProofs only [go_sem,da,db,w4])
     rotate_left
     have da:=decide_eq_false ha
     simp -implicitDefEqProofs only [go_sem,da,w4]
     repeat ((first|refine rq ?_|fail);simp -implicitDefEqProofs only [go_sem,da,w4])
     all_goals
      rw [List.take_of_length_le (show b.length≤i by omega)]
      simp -implicitDefEqProofs only [go_sem]
      refine ks_PutNode u (leafB b) j2 (by simp only [leafB,List.length_map,LEN];omega) (by simp only [leafB,List.length_map,LEN];omega) (by simp [leafB]) (by simp -implicitDefEqProofs only [go_sem,GWork.cells,GNode.cells,leafB];first|done|rfl) ?_
      cases hp:putN u (leafB b) with
      |none=>
       have hW:putW u (leafB b)=(u,0):=by rw [putW,hp]
       have hres:leavesS u out (chunk4 (l.drop (4*j)))=none:=by rw [chunk4_at (by omega),leavesS,←hb2,hp]
       have d0:decide ((0:Int)=0)=true:=rfl
       rw [hW]
       rw [hres] at j4
       rw [←j4]
       simp -implicitDefEqProofs only [go_sem,OW.v_eq,OW.h_eq,ofW,d0]
       repeat ((first|refine rq ?_|fail);simp -implicitDefEqProofs only [go_sem,OW.v_eq,OW.h_eq,ofW,d0])
       rfl
      |some q=>
       obtain ⟨u2,pg⟩:=q
       have hW:putW u (leafB b)=(u2,pg):=by rw [putW,hp]
       have dp:decide (pg=0)=false:=decide_eq_false (putN_page hp)
       have hs2:=putN_small j2 hp
       have hres:leavesS u out (chunk4 (l.drop (4*j)))=leavesS u2 (out++[⟨key1 b,pg⟩]) (chunk4 (l.drop (4*(j+1)))):=by rw [chunk4_at (by omega),leavesS,←hb2,hp];rfl
       rw [hW]
       rw [hres] at j4
       simp -implicitDefEqProofs only [go_sem,OW.v_eq,OW.h_eq,ofW,dp]
       repeat ((first|refine req (by simp only [List.length_map];omega) ?_|refine rq ?_|fail);simp -implicitDefEqProofs only [go_sem,OW.v_eq,OW.h_eq,ofW,dp,hk0,w4])
       refine next_data (j+1,u2,out++[⟨key1 b,pg⟩]) ?_ ⟨by simp only;omega,hs2,by simp;omega,j4⟩ (by simp only;omega)
       simp [strs,ints,List.take_of_length_le]
   ·have he:chunk4 (l.drop (4*j))=[]:=chunk4_end (by omega)
    rw [he,leavesS] at j4
    have hlen:=leavesS_len j4.symm
    have hcl:=chunk4_len _ l (Nat.le_refl _)
    rw [←j4]
    simp -implicitDefEqProofs only [go_sem]
    simp only
    refine loop_data (α:=Nat×GWork×List GKid) (fun x=>⟨[(4,.ref 0 0),(7,.ref 6 0),(9,.ref 12 0),(10,.own 18 0 x.2.2.length),(11,.own 19 0 x.2.2.length)],
     [(0,some (.box [.own 1 0 0,.own 2 0 0,.d (.int .i64 0),.own 3 0 0,.own 4 0 0,.own 5 0 0])),(1,some (.arr 1 [])),(2,some (.arr 2 [])),(3,some (.arr 1 [])),(4,some (.arr 1 [])),(5,some (.arr 1 [])),(6,some (.box [.own 7 0 w.fDisk.fPages.length,.own 8 0 w.fDisk.fLate.length,.d (.int .i64 w.fNext),.own 9 0 w.fUsable.length,.own 10 0 w.fGone.length,.own 11 0 w.fFresh.length])),(7,some (.arr 1 (strs w.fDisk.fPages))),(8,some (.arr 2 (GPutS w.fDisk.fLate))),(9,some (.arr 1 (ints w.fUsable))),(10,some (.arr 1 (ints w.fGone))),(11,some (.arr 1 (ints w.fFresh))),(12,some (.box [.own 13 0 x.2.1.fDisk.fPages.length,.own 14 0 x.2.1.fDisk.fLate.length,.d (.int .i64 x.2.1.fNext),.own 15 0 x.2.1.fUsable.length,.own 16 0 x.2.1.fGone.length,.own 17 0 x.2.1.fFresh.length])),(13,some (.arr 1 (strs x.2.1.fDisk.fPages))),(14,some (.arr 2 (GPutS x.2.1.fDisk.fLate))),(15,some (.arr 1 (ints x.2.1.fUsable))),(16,some (.arr 1 (ints x.2.1.fGone))),(17,some (.arr 1 (ints x.2.1.fFresh))),(18,some (.arr 1 (strs (x.2.2.map (·.fName))))),(19,some (.arr 1 (ints (x.2.2.map (·.fKind)))))]⟩)
     (fun x=>x.2.2.length≤x.1∧x.1≤l.length∧0<x.2.2.length∧smallW x.2.1∧levelsS x.1 x.2.1 x.2.2=levelsS l.length u out) (fun x=>x.1) (l.length,u,out) rfl ⟨by simp at hlen ⊢;omega,Nat.le_refl _,by simp only;rw [hlen,chunk4_cons (by intro e;rw [e] at hl0;simp at hl0)];simp,j2,rfl⟩ ?_
    clear j4 hlen he h6 j1 j3
    rintro ⟨f,v,k⟩ ⟨m1,m2,m3,m4,m5⟩
    simp only at m1 m2 m3 m4 m5
    simp -implicitDefEqProofs only [go_sem]
    by_cases hk:(1:Int)<k.length
    ·have dk:=decide_eq_true hk
     obtain ⟨f,rfl⟩:∃g,f=g+1:=⟨f - 1,by omega⟩
     rw [levelsS,if_pos (show 1<k.length by omega)] at m5
     simp -implicitDefEqProofs only [go_sem,dk]
     repeat ((first|refine rq ?_|fail);simp -implicitDefEqProofs only [go_sem,dk])
     refine loop_data (α:=Nat×GWork×List GKid) (fun x=>⟨[(4,.ref 0 0),(7,.ref 6 0),(9,.ref 12 0),(10,.own 18 0 k.length),(11,.own 19 0 k.length),(17,.own 20 0 x.2.2.length),(18,.own 21 0 x.2.2.length),(19,.d (.int .i64 ((4*x.1:Nat):Int)))],
      [(0,some (.box [.own 1 0 0,.own 2 0 0,.d (.int .i64 0),.own 3 0 0,.own 4 0 0,.own 5 0 0])),(1,some (.arr 1 [])),(2,some (.arr 2 [])),(3,some (.arr 1 [])),(4,some (.arr 1 [])),(5,some (.arr 1 [])),(6,some (.box [.own 7 0 w.fDisk.fPages.length,.own 8 0 w.fDisk.fLate.length,.d (.int .i64 w.fNext),.own 9 0 w.fUsable.length,.own 10 0 w.fGone.length,.own 11 0 w.fFresh.length])),(7,some (.arr 1 (strs w.fDisk.fPages))),(8,some (.arr 2 (GPutS w.fDisk.fLate))),(9,some (.arr 1 (ints w.fUsable))),(10,some (.arr 1 (ints w.fGone))),(11,some (.arr 1 (ints w.fFresh))),(12,some (.box [.own 13 0 x.2.1.fDisk.fPages.length,.own 14 0 x.2.1.fDisk.fLate.length,.d (.int .i64 x.2.1.fNext),.own 15 0 x.2.1.fUsable.length,.own 16 0 x.2.1.fGone.length,.own 17 0 x.2.1.fFresh.length])),(13,some (.arr 1 (strs x.2.1.fDisk.fPages))),(14,some (.arr 2 (GPutS x.2.1.fDisk.fLate))),(15,some (.arr 1 (ints x.2.1.fUsable))),(16,some (.arr 1 (ints x.2.1.fGone))),(17,some (.arr 1 (ints x.2.1.fFresh))),(18,some (.arr 1 (strs (k.map (·.fName))))),(19,some (.arr 1 (ints (k.map (·.fKind))))),(20,some (.arr 1 (strs (x.2.2.map (·.fName))))),(21,some (.arr 1 (ints (x.2.2.map (·.fKind)))))]⟩)
      (fun x=>4*x.1≤k.length+3∧smallW x.2.1∧x.2.2.length=x.1∧levelS x.2.1 x.2.2 (chunk4 (k.drop (4*x.1)))=levelS v [] (chunk4 k)) (fun x=>k.length+4 - 4*x.1) (0,v,[]) rfl ⟨by omega,m4,rfl,by rw [Nat.mul_zero,List.drop_zero]⟩ ?_
     rintro ⟨j,u1,out1⟩ ⟨n1,n2,n3,n4⟩
     simp only at n1 n2 n3 n4
     simp -implicitDefEqProofs only [go_sem]
     by_cases h8:((4*j:Nat):Int)<(k.length:Int)
     ·have d8:=decide_eq_true h8
      have w4:IntKind.i64.wrap (((4*j:Nat):Int)+4)=((4*(j+1):Nat):Int):=by rw [wrap_int (by omega) (by omega)];omega
      obtain ⟨b,hb2⟩:∃b,b=(k.drop (4*j)).take 4:=⟨_,rfl⟩
      have hbl:b.length=min 4 (k.length - 4*j):=by rw [hb2];simp
      simp -implicitDefEqProofs only [go_sem,d8,w4]
      obtain ⟨x,hx⟩:=some_at (l:=k) (i:=4*j) h8
      have hkx:(k.map (·.fName))[4*j]? =some x.fName:=by rw [List.getElem?_map,hx];rfl
      have hn1:name1 b=x.fName:=by
       rw [hb2,List.drop_eq_getElem_cons (by omega)]
       rw [List.getElem?_eq_getElem (by omega)] at hx
       rw [Option.some.inj hx];rfl
      have hm:b.length≤4:=by omega
      by_cases h9:(k.length:Int)<((4*(j+1):Nat):Int)
      have d9:=decide_eq_true h9
      have hXe:(k.drop (4*j)).take (k.length - 4*j)=b:=by rw [hb2,List.take_of_length_le (by simp),List.take_of_length_le (by simp;omega)]
      have hcN:List.take (k.length - 4*j) (List.drop (4*j) (strs (k.map (·.fName))))=strs (b.map (·.fName)):=by rw [←hXe];simp [strs,List.map_take,List.map_drop]
      have hcK:List.take (k.length - 4*j) (List.drop (4*j) (ints (k.map (·.fKind))))=ints (b.map (·.fKind)):=by rw [←hXe];simp [ints,List.map_take,List.map_drop]
      simp -implicitDefEqProofs only [go_sem,d9]
      repeat ((first|refine rq ?_|fail);simp -implicitDefEqProofs only [go_sem,d9])
      rotate_left
      have d9:=decide_eq_false h9
      have hXe:(k.drop (4*j)).take (4*(j+1) - 4*j)=b:=by rw [hb2,show 4*(j+1) - 4*j=4 by omega]
      have hcN:List.take (4*(j+1) - 4*j) (List.drop (4*j) (strs (k.map (·.fName))))=strs (b.map (·.fName)):=by rw [←hXe];simp [strs,List.map_take,List.map_drop]
      have hcK:List.take (4*(j+1) - 4*j) (List.drop (4*j) (ints (k.map (·.fKind))))=ints (b.map (·.fKind)):=by rw [←hXe];simp [ints,List.map_take,List.map_drop]
      simp -implicitDefEqProofs only [go_sem,d9]
      repeat ((first|refine rq ?_|fail);simp -implicitDefEqProofs only [go_sem,d9])
      all_goals
       refine ks_PutNode u1 (kidB b) n2 (by simp only [kidB,List.length_map,LEN];omega) (by simp [kidB]) (by simp only [kidB,List.length_map,LEN];omega) (by simp -implicitDefEqProofs only [go_sem,GWork.cells,GNode.cells,kidB,hcN,hcK];first|done|rfl) ?_
       cases hp:putN u1 (kidB b) with
       |none=>
        have hW:putW u1 (kidB b)=(u1,0):=by rw [putW,hp]
        have hres:levelS u1 out1 (chunk4 (k.drop (4*j)))=none:=by rw [chunk4_at (by omega),levelS,←hb2,hp]
        have d0:decide ((0:Int)=0)=true:=rfl
        rw [hW]
        rw [hres] at n4
        rw [←n4] at m5
        simp only at m5
        rw [←m5]
        simp -implicitDefEqProofs only [go_sem,OW.v_eq,OW.h_eq,ofW,d0]
        repeat ((first|refine rq ?_|fail);simp -implicitDefEqProofs only [go_sem,OW.v_eq,OW.h_eq,ofW,d0])
        rfl
       |some q=>
        obtain ⟨u2,pg⟩:=q
        have hW:putW u1 (kidB b)=(u2,pg):=by rw [putW,hp]
        have dp:decide (pg=0)=false:=decide_eq_false (putN_page hp)
        have hs2:=putN_small n2 hp
        have hres:levelS u1 out1 (chunk4 (k.drop (4*j)))=levelS u2 (out1++[⟨x.fName,pg⟩]) (chunk4 (k.drop (4*(j+1)))):=by rw [chunk4_at (by omega),levelS,←hb2,hp,hn1];rfl
        rw [hW]
        rw [hres] at n4
        simp -implicitDefEqProofs only [go_sem,OW.v_eq,OW.h_eq,ofW,dp,w4]
        repeat ((first|refine req (by simp only [List.length_map];omega) ?_|refine rq ?_|fail);simp -implicitDefEqProofs only [go_sem,OW.v_eq,OW.h_eq,ofW,dp,w4,lget_strs hkx])
        refine next_data (j+1,u2,out1++[⟨x.fName,pg⟩]) ?_ ⟨by simp only;omega,hs2,by simp;omega,n4⟩ (by simp only;omega)
        simp [strs,ints,List.take_of_length_le]
     ·have d8:=decide_eq_false h8
      have he:chunk4 (k.drop (4*j))=[]:=chunk4_end (by omega)
      rw [he,levelS] at n4
      rw [←n4] at m5
      have hlen:=levelS_len n4.symm
      have hcl:=chunk4_len _ k (Nat.le_refl _)
      simp -implicitDefEqProofs only [go_sem,d8]
      repeat ((first|refine rq ?_|fail);simp -implicitDefEqProofs only [go_sem,d8])
      refine next_data (f,u1,out1) ?_ ⟨by simp at hlen ⊢;omega,by simp only;omega,by simp only;rw [hlen,chunk4_cons (by intro e;rw [e] at m3;simp at m3)];simp,n2,m5⟩ (by simp only;omega)
      simp
    ·have dk:=decide_eq_false hk
     rw [levelsS_stop (by omega)] at m5
     rw [←m5]
     simp -implicitDefEqProofs only [go_sem,dk]
     obtain ⟨x,xs,rfl⟩:∃x xs,k=x::xs:=by
      cases k with
      |nil=>simp at m3
      |cons x xs=>exact ⟨x,xs,rfl⟩
     have hx:lget (ints ((x::xs).map (·.fKind))) 0=[.int .i64 x.fKind]:=rfl
     simp -implicitDefEqProofs only [go_sem,hx]
     repeat ((first|refine req (by simp only [List.length_map,List.length_cons];omega) ?_|refine rq ?_|fail);simp -implicitDefEqProofs only [go_sem,hx])
     rfl
  ·have:l=[]:=List.eq_nil_of_length_eq_zero (by have:=of_decide_eq_true hl0;omega)
   subst this
   rw [chunk4_nil]
   have d0:decide (((0:Nat):Int)=0)=true:=rfl
   simp -implicitDefEqProofs only [go_sem,d0]
   repeat ((first|refine rq ?_|fail);simp -implicitDefEqProofs only [go_sem,d0])
   rfl
theorem ks_BuildTree {h:Heap} {tb:Nat} {K:OK} {args:List V} (w:GWork) (l:List GPair) (hw:smallW w) (hl:l.length≤1048576) (hg:toDs h args=some ([.agg w.cells,.sl (GPairS l)],[]))
  (hk:K (renV (bk tb ([])) (buildV w l)) (updN tb ([]) ([]))):callVC Go.Proofs.Tryz.prog h tb 40 args K:=
 call_free hg (cs_BuildTree w l hw hl) rfl (.inl rfl) hk
end Go.Rx
