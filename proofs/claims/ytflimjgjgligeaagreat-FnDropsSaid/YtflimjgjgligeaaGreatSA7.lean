/-
  Part A7: lemmas on an evaluator over plain data of the model's code, plain laws on lists and numbers, or contracts of functions of the program; each lemma names its conditions.
-/
import Derived.Test.YtflimjgjgligeaaGreatSA6
import Derived.Test.YtflimjgjgligeaaGreatSP1

set_option linter.unusedSimpArgs false
set_option linter.unusedVariables false
set_option maxRecDepth 100000
set_option maxHeartbeats 16000000
set_option linter.defProp false
namespace Go.Rx
open Go
attribute [local irreducible] Req Way WayG Sel Z2 ZQ Zaz cVC Zai ZaO
def Zkg (w:ZS) (l:List ZR):V:=match ZhC w l with
 |none=> .tup [.d (.agg w.cells),.d (.int .i64 0),.d (.bool false)]
 |some (w',p)=> .tup [.d (.agg w'.cells),.d (.int .i64 p),.d (.bool true)]
theorem ZzN {l:List (List UInt8)}:ascK (l.take 1):=by
 cases l with
 |nil=>simp [ascK]
 |cons x l=>simp [ascK]
@[go_sem] def hr36:ZW:=hh [[0,1],[1,2,4],[1,2,4,7],[1,2,4,7,8],[1,2,4,7,8],[1,2,4,7,8],[4,7],[1,2,4,7],[4,7],[1,2,4,7],[1,4,7,9],[1,4,7,9,10],[1,4,7,9,10,11],[1,4,7,9,10,11,12],[1,4,7,9,10,11,12],[1,4,7,9,10,11,12],[1,4,7,9,10,11,12,13],[1,4,7,9,10,11,12,13,14],[1,4,7,9,10,11,12,13,14],[1,4,7,9,10,11,12,13,14],[1,4,7,9,10,11,12,13,14],[1,4,7,9,10,11,12,13],[1,4,7,9,10,11,12,13,15,16],[4,7],[1,4,7,9,10,11,12,13,15,16],[1,4,7,9,10,11,12,13,16],[1,4,7,9,10,11,12,16],[4,7,9,10,11],[4,7,9,10,11],[4,7,9,10,11,17],[4,7,9,10,11,17,18],[4,7,9,10,11,17,18,19],[4,7,9,10,11,17,18,19],[4,7,9,10,11,17,18,19],[4,7,9,10,11,17,18,19,20],[4,7,9,10,11,17,18,19],[4,7,9,10,11,17,18,19,20],[4,7,9,10,11,17,18,19,21,22],[4,7],[4,7,9,10,11,17,18,19,21,22],[4,7,9,10,11,17,18,19,22],[4,7,9,10,11,17,18,19,22],[4,7,9,17,18],[4,7,9,10,18],[4,9,11]]
@[go_sem] def hl36:ZW:=hh [[],[],[],[1,2,4,7,8],[],[],[],[],[],[],[],[],[],[1,4,7,9,10,11,12],[],[],[],[1,4,7,9,10,11,12,13,14],[],[],[],[],[],[],[],[],[],[4,7,9,10,11],[],[],[],[4,7,9,10,11,17,18,19]]
attribute [go_sem] Go.Proofs.Tryz.results36
set_option maxHeartbeats 20000000 in
theorem Zof (w:ZS) (l:List ZR) (hw:smallW w) (hl:l.length≤1048576):ZQ Go.Proofs.Tryz.prog 36 [.d (.agg w.cells),.d (.sl (Zaj l))] [] [.dead,.dead] (Zkg w l) []:=by
 refine cofF Go.Proofs.Tryz.func36 hr36 hl36 ?_;simp -implicitDefEqProofs only [go_sem,ZS.cells];refine Zc3 w hw rfl ?_;simp -implicitDefEqProofs only [go_sem];repeat ((first|refine rq ?_|fail);simp -implicitDefEqProofs only [go_sem])
 refine ZY (α:=Nat) (fun i=>⟨[(1,.d (.sl (Zaj l))),(2,.ref 0 0),(4,.ref 1 0),(7,.ref 7 0),(8,.d (.int .i64 ((i+1:Nat):Int)))],
  [(0,some (.box [.d (.sl (strs w.Zc.Zv)),.d (.sl (Zae w.Zc.Zm)),.d (.int .i64 w.Zs),.d (.sl (ints w.ZH)),.d (.sl (ints w.Zg)),.d (.sl (ints w.Zf))])),(1,some (.box [.own 2 0 0,.own 3 0 0,.d (.int .i64 0),.own 4 0 0,.own 5 0 0,.own 6 0 0])),(2,some (.arr 1 [])),(3,some (.arr 2 [])),(4,some (.arr 1 [])),(5,some (.arr 1 [])),(6,some (.arr 1 [])),(7,some (.box [.own 8 0 w.Zc.Zv.length,.own 9 0 w.Zc.Zm.length,.d (.int .i64 w.Zs),.own 10 0 w.ZH.length,.own 11 0 w.Zg.length,.own 12 0 w.Zf.length])),(8,some (.arr 1 (strs w.Zc.Zv))),(9,some (.arr 2 (Zae w.Zc.Zm))),(10,some (.arr 1 (ints w.ZH))),(11,some (.arr 1 (ints w.Zg))),(12,some (.arr 1 (ints w.Zf)))]⟩)
  (fun i=>i≤l.length∧ascK ((l.map (·.Zi)).take (i+1))) (fun i=>l.length - i) 0 rfl ⟨by omega,ZzN⟩ ?_
 rintro i ⟨i1,i2⟩;simp -implicitDefEqProofs only [go_sem];refine fork (fun h5=>?_) (fun h5=>?_)
 ·obtain ⟨p,hp⟩:=Z3 (l:=l) (i:=i+1) (by omega);obtain ⟨q,hq⟩:=Z3 (l:=l) (i:=i) (by omega);have hpk:(l.map (·.Zi))[i+1]? =some p.Zi:=by rw [List.getElem?_map,hp];rfl
  have hqk:(l.map (·.Zi))[i]? =some q.Zi:=by rw [List.getElem?_map,hq];rfl
  have hj:IntKind.i64.wrap (((i+1:Nat):Int) - 1)=(i:Int):=by rw [Zad (by omega) (by omega)];omega
  simp -implicitDefEqProofs only [go_sem,hj,Zar hp,Zar hq];repeat ((first|refine rq ?_|fail);simp -implicitDefEqProofs only [go_sem,hj,Zar hp,Zar hq])
  cases hlt:Zax q.Zi p.Zi
  ·simp -implicitDefEqProofs only [go_sem];repeat ((first|refine rq ?_|fail);simp -implicitDefEqProofs only [go_sem])
   have hn:¬ascK (l.map (·.Zi)):=fun h=>by rw [Zmv h hqk hpk] at hlt;cases hlt
   rw [Zkg,ZhC,if_neg hn];rfl
  ·simp -implicitDefEqProofs only [go_sem];repeat ((first|refine rq ?_|fail);simp -implicitDefEqProofs only [go_sem])
   rw [ZV (by simp only [LEN];omega)];refine ZP (i+1) rfl ⟨by omega,Zkl i2 hqk hpk hlt⟩ (by omega)
 ·have hasc:ascK (l.map (·.Zi)):=by rw [List.take_of_length_le (by simp;omega)] at i2;exact i2
  rw [Zkg,ZhC,if_pos hasc];cases hl0:decide ((l.length:Int)=0)
  ·simp -implicitDefEqProofs only [go_sem,hl0];repeat ((first|refine rq ?_|refine Zc3 w hw rfl ?_|fail);simp -implicitDefEqProofs only [go_sem,hl0])
   refine ZY (α:=Nat×ZS×List GKid) (fun x=>⟨[(1,.d (.sl (Zaj l))),(4,.ref 0 0),(7,.ref 6 0),(9,.ref 12 0),(10,.own 18 0 x.2.2.length),(11,.own 19 0 x.2.2.length),(12,.d (.int .i64 ((4*x.1:Nat):Int)))],
    [(0,some (.box [.own 1 0 0,.own 2 0 0,.d (.int .i64 0),.own 3 0 0,.own 4 0 0,.own 5 0 0])),(1,some (.arr 1 [])),(2,some (.arr 2 [])),(3,some (.arr 1 [])),(4,some (.arr 1 [])),(5,some (.arr 1 [])),(6,some (.box [.own 7 0 w.Zc.Zv.length,.own 8 0 w.Zc.Zm.length,.d (.int .i64 w.Zs),.own 9 0 w.ZH.length,.own 10 0 w.Zg.length,.own 11 0 w.Zf.length])),(7,some (.arr 1 (strs w.Zc.Zv))),(8,some (.arr 2 (Zae w.Zc.Zm))),(9,some (.arr 1 (ints w.ZH))),(10,some (.arr 1 (ints w.Zg))),(11,some (.arr 1 (ints w.Zf))),(12,some (.box [.own 13 0 x.2.1.Zc.Zv.length,.own 14 0 x.2.1.Zc.Zm.length,.d (.int .i64 x.2.1.Zs),.own 15 0 x.2.1.ZH.length,.own 16 0 x.2.1.Zg.length,.own 17 0 x.2.1.Zf.length])),(13,some (.arr 1 (strs x.2.1.Zc.Zv))),(14,some (.arr 2 (Zae x.2.1.Zc.Zm))),(15,some (.arr 1 (ints x.2.1.ZH))),(16,some (.arr 1 (ints x.2.1.Zg))),(17,some (.arr 1 (ints x.2.1.Zf))),(18,some (.arr 1 (strs (x.2.2.map (·.Zr))))),(19,some (.arr 1 (ints (x.2.2.map (·.Zl)))))]⟩)
    (fun x=>4*x.1≤l.length+3∧smallW x.2.1∧x.2.2.length=x.1∧ZbH x.2.1 x.2.2 (ZaR (l.drop (4*x.1)))=ZbH w [] (ZaR l)) (fun x=>l.length+4 - 4*x.1) (0,w,[]) rfl ⟨by omega,hw,rfl,by rw [Nat.mul_zero,List.drop_zero]⟩ ?_
   rintro ⟨j,u,out⟩ ⟨j1,j2,j3,j4⟩;simp only at j1 j2 j3 j4;simp -implicitDefEqProofs only [go_sem];refine fork (fun h6=>?_) (fun h6=>?_)
   ·obtain ⟨b,hb2⟩:∃b,b=(l.drop (4*j)).take 4:=⟨_,rfl⟩;have hbl:b.length=min 4 (l.length - 4*j):=by rw [hb2];simp
    have w4:IntKind.i64.wrap (((4*j:Nat):Int)+4)=((4*(j+1):Nat):Int):=by rw [Zad (by omega) (by omega)];omega
    simp -implicitDefEqProofs only [go_sem];refine ZY (α:=Nat) (fun i=>⟨[(1,.d (.sl (Zaj l))),(4,.ref 0 0),(7,.ref 6 0),(9,.ref 12 0),(10,.own 18 0 out.length),(11,.own 19 0 out.length),(12,.d (.int .i64 ((4*j:Nat):Int))),(13,.ref 20 0),(14,.d (.int .i64 ((4*j+i:Nat):Int)))],
     [(0,some (.box [.own 1 0 0,.own 2 0 0,.d (.int .i64 0),.own 3 0 0,.own 4 0 0,.own 5 0 0])),(1,some (.arr 1 [])),(2,some (.arr 2 [])),(3,some (.arr 1 [])),(4,some (.arr 1 [])),(5,some (.arr 1 [])),(6,some (.box [.own 7 0 w.Zc.Zv.length,.own 8 0 w.Zc.Zm.length,.d (.int .i64 w.Zs),.own 9 0 w.ZH.length,.own 10 0 w.Zg.length,.own 11 0 w.Zf.length])),(7,some (.arr 1 (strs w.Zc.Zv))),(8,some (.arr 2 (Zae w.Zc.Zm))),(9,some (.arr 1 (ints w.ZH))),(10,some (.arr 1 (ints w.Zg))),(11,some (.arr 1 (ints w.Zf))),(12,some (.box [.own 13 0 u.Zc.Zv.length,.own 14 0 u.Zc.Zm.length,.d (.int .i64 u.Zs),.own 15 0 u.ZH.length,.own 16 0 u.Zg.length,.own 17 0 u.Zf.length])),(13,some (.arr 1 (strs u.Zc.Zv))),(14,some (.arr 2 (Zae u.Zc.Zm))),(15,some (.arr 1 (ints u.ZH))),(16,some (.arr 1 (ints u.Zg))),(17,some (.arr 1 (ints u.Zf))),(18,some (.arr 1 (strs (out.map (·.Zr))))),(19,some (.arr 1 (ints (out.map (·.Zl))))),(20,some (.box [.d (.bool true),.own 21 0 ((b.take i).map (·.Zi)).length,.own 22 0 ((b.take i).map (·.ZI)).length,.own 23 0 0])),(21,some (.arr 1 (strs ((b.take i).map (·.Zi))))),(22,some (.arr 1 (strs ((b.take i).map (·.ZI))))),(23,some (.arr 1 []))]⟩)
     (fun i=>i≤b.length) (fun i=>b.length - i) 0 rfl (Nat.zero_le _) ?_
    rintro i k1;simp -implicitDefEqProofs only [go_sem,w4];by_cases h7:i<b.length
    ·obtain ⟨p,hp⟩:=Z3 (l:=b) (i:=i) (by omega);have hpl:l[4*j+i]? =some p:=by
      rw [hb2,List.getElem?_take,if_pos (by omega),List.getElem?_drop] at hp;exact hp
     have da:decide (((4*j+i:Nat):Int)<(l.length:Int))=true:=decide_eq_true (by omega);have db:decide (((4*j+i:Nat):Int)<((4*(j+1):Nat):Int))=true:=decide_eq_true (by omega);simp -implicitDefEqProofs only [go_sem,da,db,w4,Zar hpl];repeat ((first|refine rq ?_|fail);simp -implicitDefEqProofs only [go_sem,da,db,w4,Zar hpl])
     refine ZP (i+1) ?_ (by omega) (by omega);rw [Z7 hp,ZV (by simp only [LEN];omega)];simp [Nat.add_assoc]
    ·have hb0:0<b.length:=by omega
     have hm:b.length≤4:=by omega
     have hk0:lget (strs (b.map (·.Zi))) 0=[.str (key1 b)]:=by
      cases b with
      |nil=>simp at hb0
      |cons x xs=>rfl
     by_cases ha:((4*j+i:Nat):Int)<(l.length:Int);have da:=decide_eq_true ha;have db:decide (((4*j+i:Nat):Int)<((4*(j+1):Nat):Int))=false:=decide_eq_false (by omega);simp -implicitDefEqProofs only [go_sem,da,db,w4];repeat ((first|refine rq ?_|fail);simp -implicitDefEqProofs only [go_sem,da,db,w4])
     rotate_left;have da:=decide_eq_false ha;simp -implicitDefEqProofs only [go_sem,da,w4];repeat ((first|refine rq ?_|fail);simp -implicitDefEqProofs only [go_sem,da,w4])
     all_goals
      rw [List.take_of_length_le (show b.length≤i by omega)];simp -implicitDefEqProofs only [go_sem];refine Zll u (Za2 b) j2 (by simp only [Za2,List.length_map,LEN];omega) (by simp only [Za2,List.length_map,LEN];omega) (by simp [Za2]) (by simp -implicitDefEqProofs only [go_sem,ZS.cells,Z1.cells,Za2];first|done|rfl) ?_;cases hp:putN u (Za2 b) with
      |none=>
       have hW:putW u (Za2 b)=(u,0):=by rw [putW,hp]
       have hres:ZbH u out (ZaR (l.drop (4*j)))=none:=by rw [Zhz (by omega),ZbH,←hb2,hp]
       have d0:decide ((0:Int)=0)=true:=rfl;rw [hW];rw [hres] at j4;rw [←j4];simp -implicitDefEqProofs only [go_sem,OW.v_eq,OW.h_eq,ofW,d0];repeat ((first|refine rq ?_|fail);simp -implicitDefEqProofs only [go_sem,OW.v_eq,OW.h_eq,ofW,d0])
       rfl
      |some q=>
       obtain ⟨u2,pg⟩:=q;have hW:putW u (Za2 b)=(u2,pg):=by rw [putW,hp]
       have dp:decide (pg=0)=false:=decide_eq_false (Zcl hp);have hs2:=ZeE j2 hp;have hres:ZbH u out (ZaR (l.drop (4*j)))=ZbH u2 (out++[⟨key1 b,pg⟩]) (ZaR (l.drop (4*(j+1)))):=by rw [Zhz (by omega),ZbH,←hb2,hp];rfl
       rw [hW];rw [hres] at j4;simp -implicitDefEqProofs only [go_sem,OW.v_eq,OW.h_eq,ofW,dp];repeat ((first|refine req (by simp only [List.length_map];omega) ?_|refine rq ?_|fail);simp -implicitDefEqProofs only [go_sem,OW.v_eq,OW.h_eq,ofW,dp,hk0,w4])
       refine ZP (j+1,u2,out++[⟨key1 b,pg⟩]) ?_ ⟨by simp only;omega,hs2,by simp;omega,j4⟩ (by simp only;omega);simp [strs,ints,List.take_of_length_le]
   ·have he:ZaR (l.drop (4*j))=[]:=ZlD (by omega);rw [he,ZbH] at j4;have hlen:=ZjM j4.symm;have hcl:=ZeQ _ l (Nat.le_refl _);rw [←j4];simp -implicitDefEqProofs only [go_sem];simp only;refine ZY (α:=Nat×ZS×List GKid) (fun x=>⟨[(4,.ref 0 0),(7,.ref 6 0),(9,.ref 12 0),(10,.own 18 0 x.2.2.length),(11,.own 19 0 x.2.2.length)],
     [(0,some (.box [.own 1 0 0,.own 2 0 0,.d (.int .i64 0),.own 3 0 0,.own 4 0 0,.own 5 0 0])),(1,some (.arr 1 [])),(2,some (.arr 2 [])),(3,some (.arr 1 [])),(4,some (.arr 1 [])),(5,some (.arr 1 [])),(6,some (.box [.own 7 0 w.Zc.Zv.length,.own 8 0 w.Zc.Zm.length,.d (.int .i64 w.Zs),.own 9 0 w.ZH.length,.own 10 0 w.Zg.length,.own 11 0 w.Zf.length])),(7,some (.arr 1 (strs w.Zc.Zv))),(8,some (.arr 2 (Zae w.Zc.Zm))),(9,some (.arr 1 (ints w.ZH))),(10,some (.arr 1 (ints w.Zg))),(11,some (.arr 1 (ints w.Zf))),(12,some (.box [.own 13 0 x.2.1.Zc.Zv.length,.own 14 0 x.2.1.Zc.Zm.length,.d (.int .i64 x.2.1.Zs),.own 15 0 x.2.1.ZH.length,.own 16 0 x.2.1.Zg.length,.own 17 0 x.2.1.Zf.length])),(13,some (.arr 1 (strs x.2.1.Zc.Zv))),(14,some (.arr 2 (Zae x.2.1.Zc.Zm))),(15,some (.arr 1 (ints x.2.1.ZH))),(16,some (.arr 1 (ints x.2.1.Zg))),(17,some (.arr 1 (ints x.2.1.Zf))),(18,some (.arr 1 (strs (x.2.2.map (·.Zr))))),(19,some (.arr 1 (ints (x.2.2.map (·.Zl)))))]⟩)
     (fun x=>x.2.2.length≤x.1∧x.1≤l.length∧0<x.2.2.length∧smallW x.2.1∧Zc2 x.1 x.2.1 x.2.2=Zc2 l.length u out) (fun x=>x.1) (l.length,u,out) rfl ⟨by simp at hlen ⊢;omega,Nat.le_refl _,by simp only;rw [hlen,Zcc (by intro e;rw [e] at hl0;simp at hl0)];simp,j2,rfl⟩ ?_
    clear j4 hlen he h6 j1 j3;rintro ⟨f,v,k⟩ ⟨m1,m2,m3,m4,m5⟩;simp only at m1 m2 m3 m4 m5;simp -implicitDefEqProofs only [go_sem];by_cases hk:(1:Int)<k.length
    ·have dk:=decide_eq_true hk;obtain ⟨f,rfl⟩:∃g,f=g+1:=⟨f - 1,by omega⟩;rw [Zc2,if_pos (show 1<k.length by omega)] at m5;simp -implicitDefEqProofs only [go_sem,dk];repeat ((first|refine rq ?_|fail);simp -implicitDefEqProofs only [go_sem,dk])
     refine ZY (α:=Nat×ZS×List GKid) (fun x=>⟨[(4,.ref 0 0),(7,.ref 6 0),(9,.ref 12 0),(10,.own 18 0 k.length),(11,.own 19 0 k.length),(17,.own 20 0 x.2.2.length),(18,.own 21 0 x.2.2.length),(19,.d (.int .i64 ((4*x.1:Nat):Int)))],
      [(0,some (.box [.own 1 0 0,.own 2 0 0,.d (.int .i64 0),.own 3 0 0,.own 4 0 0,.own 5 0 0])),(1,some (.arr 1 [])),(2,some (.arr 2 [])),(3,some (.arr 1 [])),(4,some (.arr 1 [])),(5,some (.arr 1 [])),(6,some (.box [.own 7 0 w.Zc.Zv.length,.own 8 0 w.Zc.Zm.length,.d (.int .i64 w.Zs),.own 9 0 w.ZH.length,.own 10 0 w.Zg.length,.own 11 0 w.Zf.length])),(7,some (.arr 1 (strs w.Zc.Zv))),(8,some (.arr 2 (Zae w.Zc.Zm))),(9,some (.arr 1 (ints w.ZH))),(10,some (.arr 1 (ints w.Zg))),(11,some (.arr 1 (ints w.Zf))),(12,some (.box [.own 13 0 x.2.1.Zc.Zv.length,.own 14 0 x.2.1.Zc.Zm.length,.d (.int .i64 x.2.1.Zs),.own 15 0 x.2.1.ZH.length,.own 16 0 x.2.1.Zg.length,.own 17 0 x.2.1.Zf.length])),(13,some (.arr 1 (strs x.2.1.Zc.Zv))),(14,some (.arr 2 (Zae x.2.1.Zc.Zm))),(15,some (.arr 1 (ints x.2.1.ZH))),(16,some (.arr 1 (ints x.2.1.Zg))),(17,some (.arr 1 (ints x.2.1.Zf))),(18,some (.arr 1 (strs (k.map (·.Zr))))),(19,some (.arr 1 (ints (k.map (·.Zl))))),(20,some (.arr 1 (strs (x.2.2.map (·.Zr))))),(21,some (.arr 1 (ints (x.2.2.map (·.Zl)))))]⟩)
      (fun x=>4*x.1≤k.length+3∧smallW x.2.1∧x.2.2.length=x.1∧Zcz x.2.1 x.2.2 (ZaR (k.drop (4*x.1)))=Zcz v [] (ZaR k)) (fun x=>k.length+4 - 4*x.1) (0,v,[]) rfl ⟨by omega,m4,rfl,by rw [Nat.mul_zero,List.drop_zero]⟩ ?_
     rintro ⟨j,u1,out1⟩ ⟨n1,n2,n3,n4⟩;simp only at n1 n2 n3 n4;simp -implicitDefEqProofs only [go_sem];by_cases h8:((4*j:Nat):Int)<(k.length:Int)
     ·have d8:=decide_eq_true h8;have w4:IntKind.i64.wrap (((4*j:Nat):Int)+4)=((4*(j+1):Nat):Int):=by rw [Zad (by omega) (by omega)];omega
      obtain ⟨b,hb2⟩:∃b,b=(k.drop (4*j)).take 4:=⟨_,rfl⟩;have hbl:b.length=min 4 (k.length - 4*j):=by rw [hb2];simp
      simp -implicitDefEqProofs only [go_sem,d8,w4];obtain ⟨x,hx⟩:=Z3 (l:=k) (i:=4*j) h8;have hkx:(k.map (·.Zr))[4*j]? =some x.Zr:=by rw [List.getElem?_map,hx];rfl
      have hn1:Zy2 b=x.Zr:=by
       rw [hb2,List.drop_eq_getElem_cons (by omega)];rw [List.getElem?_eq_getElem (by omega)] at hx;rw [Option.some.inj hx];rfl
      have hm:b.length≤4:=by omega
      by_cases h9:(k.length:Int)<((4*(j+1):Nat):Int);have d9:=decide_eq_true h9;have hXe:(k.drop (4*j)).take (k.length - 4*j)=b:=by rw [hb2,List.take_of_length_le (by simp),List.take_of_length_le (by simp;omega)]
      have hcN:List.take (k.length - 4*j) (List.drop (4*j) (strs (k.map (·.Zr))))=strs (b.map (·.Zr)):=by rw [←hXe];simp [strs,List.map_take,List.map_drop]
      have hcK:List.take (k.length - 4*j) (List.drop (4*j) (ints (k.map (·.Zl))))=ints (b.map (·.Zl)):=by rw [←hXe];simp [ints,List.map_take,List.map_drop]
      simp -implicitDefEqProofs only [go_sem,d9];repeat ((first|refine rq ?_|fail);simp -implicitDefEqProofs only [go_sem,d9])
      rotate_left;have d9:=decide_eq_false h9;have hXe:(k.drop (4*j)).take (4*(j+1) - 4*j)=b:=by rw [hb2,show 4*(j+1) - 4*j=4 by omega]
      have hcN:List.take (4*(j+1) - 4*j) (List.drop (4*j) (strs (k.map (·.Zr))))=strs (b.map (·.Zr)):=by rw [←hXe];simp [strs,List.map_take,List.map_drop]
      have hcK:List.take (4*(j+1) - 4*j) (List.drop (4*j) (ints (k.map (·.Zl))))=ints (b.map (·.Zl)):=by rw [←hXe];simp [ints,List.map_take,List.map_drop]
      simp -implicitDefEqProofs only [go_sem,d9];repeat ((first|refine rq ?_|fail);simp -implicitDefEqProofs only [go_sem,d9])
      all_goals
       refine Zll u1 (kidB b) n2 (by simp only [kidB,List.length_map,LEN];omega) (by simp [kidB]) (by simp only [kidB,List.length_map,LEN];omega) (by simp -implicitDefEqProofs only [go_sem,ZS.cells,Z1.cells,kidB,hcN,hcK];first|done|rfl) ?_;cases hp:putN u1 (kidB b) with
       |none=>
        have hW:putW u1 (kidB b)=(u1,0):=by rw [putW,hp]
        have hres:Zcz u1 out1 (ZaR (k.drop (4*j)))=none:=by rw [Zhz (by omega),Zcz,←hb2,hp]
        have d0:decide ((0:Int)=0)=true:=rfl;rw [hW];rw [hres] at n4;rw [←n4] at m5;simp only at m5;rw [←m5];simp -implicitDefEqProofs only [go_sem,OW.v_eq,OW.h_eq,ofW,d0];repeat ((first|refine rq ?_|fail);simp -implicitDefEqProofs only [go_sem,OW.v_eq,OW.h_eq,ofW,d0])
        rfl
       |some q=>
        obtain ⟨u2,pg⟩:=q;have hW:putW u1 (kidB b)=(u2,pg):=by rw [putW,hp]
        have dp:decide (pg=0)=false:=decide_eq_false (Zcl hp);have hs2:=ZeE n2 hp;have hres:Zcz u1 out1 (ZaR (k.drop (4*j)))=Zcz u2 (out1++[⟨x.Zr,pg⟩]) (ZaR (k.drop (4*(j+1)))):=by rw [Zhz (by omega),Zcz,←hb2,hp,hn1];rfl
        rw [hW];rw [hres] at n4;simp -implicitDefEqProofs only [go_sem,OW.v_eq,OW.h_eq,ofW,dp,w4];repeat ((first|refine req (by simp only [List.length_map];omega) ?_|refine rq ?_|fail);simp -implicitDefEqProofs only [go_sem,OW.v_eq,OW.h_eq,ofW,dp,w4,ZM hkx])
        refine ZP (j+1,u2,out1++[⟨x.Zr,pg⟩]) ?_ ⟨by simp only;omega,hs2,by simp;omega,n4⟩ (by simp only;omega);simp [strs,ints,List.take_of_length_le]
     ·have d8:=decide_eq_false h8;have he:ZaR (k.drop (4*j))=[]:=ZlD (by omega);rw [he,Zcz] at n4;rw [←n4] at m5;have hlen:=Zlg n4.symm;have hcl:=ZeQ _ k (Nat.le_refl _);simp -implicitDefEqProofs only [go_sem,d8];repeat ((first|refine rq ?_|fail);simp -implicitDefEqProofs only [go_sem,d8])
      refine ZP (f,u1,out1) ?_ ⟨by simp at hlen ⊢;omega,by simp only;omega,by simp only;rw [hlen,Zcc (by intro e;rw [e] at m3;simp at m3)];simp,n2,m5⟩ (by simp only;omega);simp
    ·have dk:=decide_eq_false hk;rw [Zno (by omega)] at m5;rw [←m5];simp -implicitDefEqProofs only [go_sem,dk];obtain ⟨x,xs,rfl⟩:∃x xs,k=x::xs:=by
      cases k with
      |nil=>simp at m3
      |cons x xs=>exact ⟨x,xs,rfl⟩
     have hx:lget (ints ((x::xs).map (·.Zl))) 0=[.int .i64 x.Zl]:=rfl;simp -implicitDefEqProofs only [go_sem,hx];repeat ((first|refine req (by simp only [List.length_map,List.length_cons];omega) ?_|refine rq ?_|fail);simp -implicitDefEqProofs only [go_sem,hx])
     rfl
  ·have:l=[]:=List.eq_nil_of_length_eq_zero (by have:=of_decide_eq_true hl0;omega);subst this;rw [ZbJ];have d0:decide (((0:Nat):Int)=0)=true:=rfl;simp -implicitDefEqProofs only [go_sem,d0];repeat ((first|refine rq ?_|fail);simp -implicitDefEqProofs only [go_sem,d0])
   rfl
def Zis (w:ZS) (l:List ZR) (hw:smallW w) (hl:l.length≤1048576):=kf (Zof w l hw hl)
end Go.Rx
