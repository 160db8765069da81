/-
  Part C1: lemmas on an evaluator over plain data of the model's code, plain laws on lists and numbers, or contracts of functions of the program; each lemma names its conditions.
-/
import Derived.Test.YtflimjgjgligeaaGreatSA6
import Derived.Test.YtflimjgjgligeaaGreatSA3
import Derived.Test.YtflimjgjgligeaaGreatSA8
import Derived.Test.YtflimjgjgligeaaGreatSP4
import Derived.Test.YtflimjgjgligeaaGreatSE6

set_option linter.unusedSimpArgs false
set_option linter.unusedVariables false
set_option maxRecDepth 100000
set_option maxHeartbeats 16000000
set_option linter.defProp false
namespace Go.Rx
open Go
attribute [local irreducible] Req Way WayG Sel Z2 ZQ Zaz cVC Zai ZaO
@[go_sem] def hr190:ZW:=hh [[0],[1,2],[1,2,3],[1,2,3],[1,2,3,4],[1,2,3,4],[1,2,3,4],[2,3]]
@[go_sem] def hl190:ZW:=hh [[],[],[],[],[1,2,3,4]]
attribute [go_sem] Go.Proofs.Tryz.results190
theorem ZsF (m:ZX) (hm:ZaD m):ZQ Go.Proofs.Tryz.prog 190 [.d (.agg m.cells)] [] [.dead] (.d (.agg m.cells)) []:=by
 refine cofF Go.Proofs.Tryz.func190 hr190 hl190 ?_;obtain ⟨hm1,hm2⟩:=hm;simp -implicitDefEqProofs only [go_sem,ZX.cells];repeat ((first|refine rq ?_|refine wl ?_|refine gl ?_|fail);simp -implicitDefEqProofs only [go_sem,ZX.cells])
 refine ZY (α:=Nat) (fun i=>⟨[(1,.ref 0 0),(2,.ref 1 0),(3,.ref 3 0),(4,.d (.int .i64 i))],[(0,some (.box [.d (.int .i64 m.ZF),.d (.int .i64 m.Zy),.d (.int .i64 m.Zs),.d (.sl (Z9 m.Ze))])),(1,some (.box [.d (.int .i64 0),.d (.int .i64 0),.d (.int .i64 0),.own 2 0 0])),(2,some (.arr 2 [])),(3,some (.box [.d (.int .i64 m.ZF),.d (.int .i64 m.Zy),.d (.int .i64 m.Zs),.own 4 0 i])),(4,some (.arr 2 (Z9 (m.Ze.take i))))]⟩)
  (fun i=>i≤m.Ze.length) (fun i=>m.Ze.length - i) 0 rfl (Nat.zero_le _) ?_
 rintro i i1;simp -implicitDefEqProofs only [go_sem];refine fork (fun h5=>?_) (fun h5=>?_)
 ·obtain ⟨p,hp⟩:=Z3 h5;have hpl:p.Zv.length≤1048576:=hm2 p (List.mem_of_getElem? hp);simp -implicitDefEqProofs only [go_sem,Z4 hp];repeat ((first|refine rq ?_|refine wl ?_|refine gl ?_|fail);simp -implicitDefEqProofs only [go_sem,Z4 hp])
  rw [ZV (by simp only [LEN];omega)];refine ZP (i+1) ?_ (by omega) (by omega);simp [Z7 hp,Z9,Zau.cells,List.take_take]
 ·have hi:i=m.Ze.length:=by omega
  subst hi;simp -implicitDefEqProofs only [go_sem,List.take_length];repeat ((first|refine rq ?_|refine wl ?_|refine gl ?_|fail);simp -implicitDefEqProofs only [go_sem,List.take_length])
  rfl
def ZbY (m:ZX) (hm:ZaD m):=kf (ZsF m hm)
@[go_sem] def hr201:ZW:=hh [[0],[1],[],[1],[1,3],[1,3,4],[1,3,4],[1,3,4],[1,3,4,5],[],[1,3,4,5],[1,3,4,5,6],[1,3,4,5,6],[1,3,4,5,6],[],[1,3,4,5,6],[]]
@[go_sem] def hl201:ZW:=hh [[],[],[],[],[],[1,3,4],[],[],[],[],[],[1,3,4,5,6]]
attribute [go_sem] Go.Proofs.Tryz.results201
theorem ZvE (m:ZX) (hm:ZaD m):ZQ Go.Proofs.Tryz.prog 201 [.d (.agg m.cells)] [] [.dead] (.d (.bool (decide (Za8 m)))) []:=by
 refine cof Go.Proofs.Tryz.func201 hr201 hl201 [false] ?_;obtain ⟨hm1,hm2⟩:=hm;by_cases c1:0≤m.ZF∧m.ZF≤100000
 ·have d1:=decide_eq_true c1;by_cases c2:2≤m.Zs∧m.Zs≤40
  ·have d2:=decide_eq_true c2;have e2:IntKind.i64.wrap (m.Zs - 1)=m.Zs - 1:=Zad (by omega) (by omega);by_cases c3:m.Zy=0∨2≤m.Zy∧m.Zy≤m.Zs - 1
   ·have d3:decide (m.Zy=0)=true∨decide (m.Zy=0)=false∧decide (2≤m.Zy∧m.Zy≤m.Zs - 1)=true:=by
     by_cases h:m.Zy=0
     ·exact .inl (decide_eq_true h)
     ·exact .inr ⟨decide_eq_false h,decide_eq_true (c3.resolve_left h)⟩
    by_cases c4:m.Ze.length≤20
    ·have d4:decide ((20:Int)<(m.Ze.length:Int))=false:=decide_eq_false (by omega);have hd:ZiX m:=⟨c1,c2,c3,c4⟩;refine (fun (main:Later ?Pb)=>?_) ⟨?mainB⟩;rotate_left
     ·rcases d3 with d3|⟨d3,d5⟩
      ·simp -implicitDefEqProofs only [go_sem,ZX.cells,d1,d2,d3,d4];repeat ((first|refine rq ?_|refine wl ?_|refine gl ?_|refine Zbx _ _ _ rfl ?_|fail);simp -implicitDefEqProofs only [go_sem,ZX.cells,d1,d2,d3,d4])
       exact main.get
      ·simp -implicitDefEqProofs only [go_sem,ZX.cells,d1,d2,d3,e2,d5,d4];repeat ((first|refine rq ?_|refine wl ?_|refine gl ?_|refine Zbx _ _ _ rfl ?_|fail);simp -implicitDefEqProofs only [go_sem,ZX.cells,d1,d2,d3,e2,d5,d4])
       exact main.get
     refine ZY (α:=Nat) (fun i=>⟨[(1,.ref 0 0),(3,.own 1 0 (m.Zy::Z5 (m.Ze.take i)).length),(4,.d (.int .i64 i))],[(0,some (.box [.d (.int .i64 m.ZF),.d (.int .i64 m.Zy),.d (.int .i64 m.Zs),.d (.sl (Z9 m.Ze))])),(1,some (.arr 1 (ints (m.Zy::Z5 (m.Ze.take i)))))]⟩)
      (fun i=>i≤m.Ze.length∧Zdu m (m.Ze.take i)) (fun i=>m.Ze.length - i) 0 rfl ⟨Nat.zero_le _,Zpn⟩ ?_
     rintro i ⟨i1,i2⟩;have hno:∀j,¬Zdu m (m.Ze.take j)→decide (Za8 m)=false:=fun j hh=>decide_eq_false fun h2=>hh (ZnM h2.2)
     have hsl:(m.Zy::Z5 (m.Ze.take i)).length≤900:=by
      have:=Ze8 i2.1;simp only [List.length_take,List.length_cons] at this ⊢;omega
     have hSnd:(m.Zy::Z5 (m.Ze.take i)).Nodup:=i2.2.2;simp -implicitDefEqProofs only [go_sem];refine fork (fun h5=>?_) (fun h5=>?_)
     ·obtain ⟨f,hf⟩:=Z3 h5;have hst:m.Ze.take (i+1)=m.Ze.take i++[f]:=Z7 hf;have hne:¬((1≤f.ZF∧f.ZF≤m.ZF)∧(∀g,(m.Ze.take i).getLast? =some g→g.ZF<f.ZF)∧(1≤f.Zv.length∧f.Zv.length≤40)∧ZeF m (m.Zy::Z5 (m.Ze.take i)) f.Zv)→decide (Za8 m)=false:=fun hh=>hno (i+1) fun h2=>hh (by rw [hst,Ziw] at h2;exact h2.2)
      have hSn:m.Zy::Z5 (m.Ze.take (i+1))=(m.Zy::Z5 (m.Ze.take i))++f.Zv:=by rw [hst,Zgq];rfl
      have hnext:(1≤f.ZF∧f.ZF≤m.ZF)→(∀g,(m.Ze.take i).getLast? =some g→g.ZF<f.ZF)→(1≤f.Zv.length∧f.Zv.length≤40)→ZeF m (m.Zy::Z5 (m.Ze.take i)) f.Zv→Zdu m (m.Ze.take (i+1)):=fun a b c d=>by rw [hst,Ziw];exact ⟨i2,a,b,c,d⟩
      generalize hS:m.Zy::Z5 (m.Ze.take i)=S at*;by_cases c6:1≤f.ZF∧f.ZF≤m.ZF
      ·have d6:=decide_eq_true c6;have hord:(∃j q,i=j+1∧m.Ze[j]? =some q∧¬q.ZF<f.ZF)∨(i=0∨∃j q,i=j+1∧m.Ze[j]? =some q∧q.ZF<f.ZF):=by
        rcases Nat.eq_zero_or_pos i with hi|hi
        ·exact .inr (.inl hi)
        ·obtain ⟨q,hq⟩:=Z3 (l:=m.Ze) (i:=i - 1) (by omega);by_cases hlt:q.ZF<f.ZF
         ·exact .inr (.inr ⟨i - 1,q,by omega,hq,hlt⟩)
         ·exact .inl ⟨i - 1,q,by omega,hq,hlt⟩
       rcases hord with ⟨j,q,hj,hq,hlt⟩|hord
       ·have hg:decide ((0:Int)<(i:Int))=true:=decide_eq_true (by omega);have hjw:IntKind.i64.wrap ((i:Int) - 1)=(j:Int):=by rw [Zad (by omega) (by omega)];omega
        have dlt:decide (f.ZF≤q.ZF)=true:=decide_eq_true (by omega);rw [hne fun hh=>hlt (hh.2.1 q (by rw [hj];exact Zjh hq))];simp -implicitDefEqProofs only [go_sem,Z4 hf,d6,hg,hjw,Z4 hq,dlt];repeat ((first|refine rq ?_|refine wl ?_|refine gl ?_|refine Zbx _ _ _ rfl ?_|fail);simp -implicitDefEqProofs only [go_sem,Z4 hf,d6,hg,hjw,Z4 hq,dlt])
       ·have hlast:∀g,(m.Ze.take i).getLast? =some g→g.ZF<f.ZF:=by
         rcases hord with rfl|⟨j,q,rfl,hq,hlt⟩
         ·intro g hg;simp at hg
         ·intro g hg;rw [Zif hq hg];exact hlt
        by_cases c7:(1:Int)≤f.Zv.length∧(f.Zv.length:Int)≤40
        ·have d7:=decide_eq_true c7;refine (fun (main:Later ?Pa)=>?_) ⟨?mainA⟩;rotate_left
         ·rcases hord with hi|⟨j,q,hj,hq,hlt⟩
          ·have hg:decide ((0:Int)<(i:Int))=false:=decide_eq_false (by omega);simp -implicitDefEqProofs only [go_sem,Z4 hf,d6,hg,d7];repeat ((first|refine rq ?_|refine wl ?_|refine gl ?_|refine Zbx _ _ _ rfl ?_|fail);simp -implicitDefEqProofs only [go_sem,Z4 hf,d6,hg,d7])
           exact main.get
          ·have hg:decide ((0:Int)<(i:Int))=true:=decide_eq_true (by omega);have hjw:IntKind.i64.wrap ((i:Int) - 1)=(j:Int):=by rw [Zad (by omega) (by omega)];omega
           have dlt:decide (f.ZF≤q.ZF)=false:=decide_eq_false (by omega);simp -implicitDefEqProofs only [go_sem,Z4 hf,d6,hg,hjw,Z4 hq,dlt,d7];repeat ((first|refine rq ?_|refine wl ?_|refine gl ?_|refine Zbx _ _ _ rfl ?_|fail);simp -implicitDefEqProofs only [go_sem,Z4 hf,d6,hg,hjw,Z4 hq,dlt,d7])
           exact main.get
         refine ZY (α:=Nat) (fun k=>⟨[(1,.ref 0 0),(3,.own 1 0 (S++f.Zv.take k).length),(4,.d (.int .i64 i)),(5,.ref 2 0),(6,.d (.int .i64 k))],[(0,some (.box [.d (.int .i64 m.ZF),.d (.int .i64 m.Zy),.d (.int .i64 m.Zs),.d (.sl (Z9 m.Ze))])),(1,some (.arr 1 (ints (S++f.Zv.take k)))),(2,some (.box [.d (.int .i64 f.ZF),.d (.sl (ints f.Zv))]))]⟩)
          (fun k=>k≤f.Zv.length∧ZeF m S (f.Zv.take k)) (fun k=>f.Zv.length - k) 0 (by simp [←hS]) ⟨Nat.zero_le _,ZrN hSnd⟩ ?_
         rintro k ⟨k1,k2⟩;have hkl:(S++f.Zv.take k).length≤1000:=by simp only [List.length_append,List.length_take];omega
         simp -implicitDefEqProofs only [go_sem];refine fork (fun h8=>?_) (fun h8=>?_)
         ·obtain ⟨x,hx⟩:=Z3 h8;have hpt:f.Zv.take (k+1)=f.Zv.take k++[x]:=Z7 hx;have hpn:¬ZeF m S (f.Zv.take (k+1))→decide (Za8 m)=false:=fun hh=>hne fun h2=>hh (ZoW h2.2.2.2)
          by_cases c9:2≤x∧x≤m.Zs - 1
          ·have d9:=decide_eq_true c9;have hord:(∃j q,k=j+1∧f.Zv[j]? =some q∧¬q<x)∨(k=0∨∃j q,k=j+1∧f.Zv[j]? =some q∧q<x):=by
            rcases Nat.eq_zero_or_pos k with hk|hk
            ·exact .inr (.inl hk)
            ·obtain ⟨q,hq⟩:=Z3 (l:=f.Zv) (i:=k - 1) (by omega);by_cases hlt:q<x
             ·exact .inr (.inr ⟨k - 1,q,by omega,hq,hlt⟩)
             ·exact .inl ⟨k - 1,q,by omega,hq,hlt⟩
           rcases hord with ⟨j,q,hj,hq,hlt⟩|hord
           ·have hg:decide ((0:Int)<(k:Int))=true:=decide_eq_true (by omega);have hjw:IntKind.i64.wrap ((k:Int) - 1)=(j:Int):=by rw [Zad (by omega) (by omega)];omega
            have dlt:decide (x≤q)=true:=decide_eq_true (by omega);rw [hpn fun hh=>hlt (by rw [hpt,Ze1] at hh;exact hh.2.2.1 q (by rw [hj];exact Zjh hq))];simp -implicitDefEqProofs only [go_sem,ZO hx,e2,d9,hg,hjw,ZO hq,dlt];repeat ((first|refine rq ?_|refine wl ?_|refine gl ?_|refine Zbx _ _ _ rfl ?_|fail);simp -implicitDefEqProofs only [go_sem,ZO hx,e2,d9,hg,hjw,ZO hq,dlt])
           ·have hlast:∀g,(f.Zv.take k).getLast? =some g→g<x:=by
             rcases hord with rfl|⟨j,q,rfl,hq,hlt⟩
             ·intro g hg;simp at hg
             ·intro g hg;rw [Zif hq hg];exact hlt
            have hm1:(x∈S++f.Zv.take k∧decide (x∈S++f.Zv.take k)=true)∨(x∉S++f.Zv.take k∧decide (x∈S++f.Zv.take k)=false):=by
             by_cases h:x∈S++f.Zv.take k
             ·exact .inl ⟨h,decide_eq_true h⟩
             ·exact .inr ⟨h,decide_eq_false h⟩
            rcases hm1 with ⟨c10,d10⟩|⟨c10,d10⟩
            ·rw [hpn fun hh=>by rw [hpt,Ze1] at hh;exact hh.2.2.2 c10];rcases hord with hk|⟨j,q,hj,hq,hlt⟩
             ·have hg:decide ((0:Int)<(k:Int))=false:=decide_eq_false (by omega);simp -implicitDefEqProofs only [go_sem,ZO hx,e2,d9,hg,d10];repeat ((first|refine rq ?_|refine wl ?_|refine gl ?_|refine Zbx _ _ _ rfl ?_|refine Znx (S++f.Zv.take k) x (by simp only [LEN];omega) (ls:=[1]) (by simp -implicitDefEqProofs only [go_sem];first|done|rfl) ?_|fail);simp -implicitDefEqProofs only [go_sem,ZO hx,e2,d9,hg,d10])
             ·have hg:decide ((0:Int)<(k:Int))=true:=decide_eq_true (by omega);have hjw:IntKind.i64.wrap ((k:Int) - 1)=(j:Int):=by rw [Zad (by omega) (by omega)];omega
              have dlt:decide (x≤q)=false:=decide_eq_false (by omega);simp -implicitDefEqProofs only [go_sem,ZO hx,e2,d9,hg,hjw,ZO hq,dlt,d10];repeat ((first|refine rq ?_|refine wl ?_|refine gl ?_|refine Zbx _ _ _ rfl ?_|refine Znx (S++f.Zv.take k) x (by simp only [LEN];omega) (ls:=[1]) (by simp -implicitDefEqProofs only [go_sem];first|done|rfl) ?_|fail);simp -implicitDefEqProofs only [go_sem,ZO hx,e2,d9,hg,hjw,ZO hq,dlt,d10])
            ·have hok:ZeF m S (f.Zv.take (k+1)):=by rw [hpt,Ze1];exact ⟨k2,c9,hlast,c10⟩
             rcases hord with hk|⟨j,q,hj,hq,hlt⟩
             ·have hg:decide ((0:Int)<(k:Int))=false:=decide_eq_false (by omega);simp -implicitDefEqProofs only [go_sem,ZO hx,e2,d9,hg,d10];repeat ((first|refine rq ?_|refine wl ?_|refine gl ?_|refine Zbx _ _ _ rfl ?_|refine Znx (S++f.Zv.take k) x (by simp only [LEN];omega) (ls:=[1]) (by simp -implicitDefEqProofs only [go_sem];first|done|rfl) ?_|fail);simp -implicitDefEqProofs only [go_sem,ZO hx,e2,d9,hg,d10])
              rw [ZV (by simp only [LEN];omega)];refine ZP (k+1) ?_ ⟨by omega,hok⟩ (by omega);simp [hpt,ints];try omega
             ·have hg:decide ((0:Int)<(k:Int))=true:=decide_eq_true (by omega);have hjw:IntKind.i64.wrap ((k:Int) - 1)=(j:Int):=by rw [Zad (by omega) (by omega)];omega
              have dlt:decide (x≤q)=false:=decide_eq_false (by omega);simp -implicitDefEqProofs only [go_sem,ZO hx,e2,d9,hg,hjw,ZO hq,dlt,d10];repeat ((first|refine rq ?_|refine wl ?_|refine gl ?_|refine Zbx _ _ _ rfl ?_|refine Znx (S++f.Zv.take k) x (by simp only [LEN];omega) (ls:=[1]) (by simp -implicitDefEqProofs only [go_sem];first|done|rfl) ?_|fail);simp -implicitDefEqProofs only [go_sem,ZO hx,e2,d9,hg,hjw,ZO hq,dlt,d10])
              rw [ZV (by simp only [LEN];omega)];refine ZP (k+1) ?_ ⟨by omega,hok⟩ (by omega);simp [hpt,ints];try omega
          ·have d9:=decide_eq_false c9;rw [hpn fun hh=>c9 (by rw [hpt,Ze1] at hh;exact hh.2.1)];simp -implicitDefEqProofs only [go_sem,ZO hx,e2,d9];repeat ((first|refine rq ?_|refine wl ?_|refine gl ?_|refine Zbx _ _ _ rfl ?_|fail);simp -implicitDefEqProofs only [go_sem,ZO hx,e2,d9])
         ·have hk:k=f.Zv.length:=by omega
          subst hk;rw [List.take_length] at k2 ⊢;simp -implicitDefEqProofs only [go_sem];repeat ((first|refine rq ?_|refine wl ?_|refine gl ?_|fail);simp -implicitDefEqProofs only [go_sem])
          rw [ZV (by simp only [LEN];omega)];exact ZP (i+1) (by simp only [hSn]) ⟨by omega,hnext c6 hlast (by omega) k2⟩ (by omega)
        ·have d7:=decide_eq_false c7;rw [hne fun hh=>c7 (by have:=hh.2.2.1;omega)];rcases hord with hi|⟨j,q,hj,hq,hlt⟩
         ·have hg:decide ((0:Int)<(i:Int))=false:=decide_eq_false (by omega);simp -implicitDefEqProofs only [go_sem,Z4 hf,d6,hg,d7];repeat ((first|refine rq ?_|refine wl ?_|refine gl ?_|refine Zbx _ _ _ rfl ?_|fail);simp -implicitDefEqProofs only [go_sem,Z4 hf,d6,hg,d7])
         ·have hg:decide ((0:Int)<(i:Int))=true:=decide_eq_true (by omega);have hjw:IntKind.i64.wrap ((i:Int) - 1)=(j:Int):=by rw [Zad (by omega) (by omega)];omega
          have dlt:decide (f.ZF≤q.ZF)=false:=decide_eq_false (by omega);simp -implicitDefEqProofs only [go_sem,Z4 hf,d6,hg,hjw,Z4 hq,dlt,d7];repeat ((first|refine rq ?_|refine wl ?_|refine gl ?_|refine Zbx _ _ _ rfl ?_|fail);simp -implicitDefEqProofs only [go_sem,Z4 hf,d6,hg,hjw,Z4 hq,dlt,d7])
      ·have d6:=decide_eq_false c6;rw [hne fun hh=>c6 hh.1];simp -implicitDefEqProofs only [go_sem,Z4 hf,d6];repeat ((first|refine rq ?_|refine wl ?_|refine gl ?_|refine Zbx _ _ _ rfl ?_|fail);simp -implicitDefEqProofs only [go_sem,Z4 hf,d6])
     ·have hi:i=m.Ze.length:=by omega
      subst hi;rw [List.take_length] at i2;have hyes:decide (Za8 m)=true:=decide_eq_true ⟨hd,i2⟩;rw [hyes];simp -implicitDefEqProofs only [go_sem];repeat ((first|refine rq ?_|refine wl ?_|refine gl ?_|fail);simp -implicitDefEqProofs only [go_sem])
    ·have d4:decide ((20:Int)<(m.Ze.length:Int))=true:=decide_eq_true (by omega);have hno:decide (Za8 m)=false:=decide_eq_false fun h=>c4 h.1.2.2.2
     rw [hno];rcases d3 with d3|⟨d3,d5⟩
     ·simp -implicitDefEqProofs only [go_sem,ZX.cells,d1,d2,d3,d4];repeat ((first|refine rq ?_|refine wl ?_|refine gl ?_|refine Zbx _ _ _ rfl ?_|fail);simp -implicitDefEqProofs only [go_sem,ZX.cells,d1,d2,d3,d4])
     ·simp -implicitDefEqProofs only [go_sem,ZX.cells,d1,d2,d3,e2,d5,d4];repeat ((first|refine rq ?_|refine wl ?_|refine gl ?_|refine Zbx _ _ _ rfl ?_|fail);simp -implicitDefEqProofs only [go_sem,ZX.cells,d1,d2,d3,e2,d5,d4])
   ·have d3:decide (m.Zy=0)=false:=decide_eq_false fun h=>c3 (.inl h)
    have d5:decide (2≤m.Zy∧m.Zy≤m.Zs - 1)=false:=decide_eq_false fun h=>c3 (.inr h)
    have hno:decide (Za8 m)=false:=decide_eq_false fun h=>c3 h.1.2.2.1
    rw [hno];simp -implicitDefEqProofs only [go_sem,ZX.cells,d1,d2,d3,e2,d5];repeat ((first|refine rq ?_|refine wl ?_|refine gl ?_|refine Zbx _ _ _ rfl ?_|fail);simp -implicitDefEqProofs only [go_sem,ZX.cells,d1,d2,d3,e2,d5])
  ·have d2:=decide_eq_false c2;have hno:decide (Za8 m)=false:=decide_eq_false fun h=>c2 h.1.2.1
   rw [hno];simp -implicitDefEqProofs only [go_sem,ZX.cells,d1,d2];repeat ((first|refine rq ?_|refine wl ?_|refine gl ?_|refine Zbx _ _ _ rfl ?_|fail);simp -implicitDefEqProofs only [go_sem,ZX.cells,d1,d2])
 ·have d1:=decide_eq_false c1;have hno:decide (Za8 m)=false:=decide_eq_false fun h=>c1 h.1.1
  rw [hno];simp -implicitDefEqProofs only [go_sem,ZX.cells,d1];repeat ((first|refine rq ?_|refine wl ?_|refine gl ?_|refine Zbx _ _ _ rfl ?_|fail);simp -implicitDefEqProofs only [go_sem,ZX.cells,d1])
def Znw (m:ZX) (hm:ZaD m):=kf (ZvE m hm)
end Go.Rx
