/-
  Part A2: lemmas on an evaluator over plain data of the model's code, plain laws on lists and numbers, or contracts of functions of the program; each lemma names its conditions.
-/
import Derived.Test.YtflimjgjgligeaaGreatSA1
import Derived.Test.YtflimjgjgligeaaGreatSP1

set_option linter.unusedSimpArgs false
set_option linter.unusedVariables false
set_option maxRecDepth 100000
set_option maxHeartbeats 16000000
set_option linter.defProp false
namespace Go.Rx
open Go
attribute [local irreducible] Req Way WayG Sel Z2 ZQ Zaz cVC Zai ZaO
@[go_sem] def hr230:ZW:=hh [[0,1],[0,1],[0,1,7,8],[0,1,7,8],[0,1,5,7,8],[5],[0,1,7,8],[]]
@[go_sem] def hl230:ZW:=hh [[],[],[0,1,7,8]]
attribute [go_sem] Go.Proofs.Tryz.results230
@[go_sem] def hr166:ZW:=hh [[0,1],[0,1]]
@[go_sem] def hl166:ZW:=hh []
attribute [go_sem] Go.Proofs.Tryz.results166
@[go_sem] def hr227:ZW:=hh [[0],[0],[0,5,6],[0,5,6],[0,3,5,6],[],[0,5,6],[]]
@[go_sem] def hl227:ZW:=hh [[],[],[0,5,6]]
attribute [go_sem] Go.Proofs.Tryz.results227
@[go_sem] def hr266:ZW:=hh [[0,1],[0,1]]
@[go_sem] def hl266:ZW:=hh []
attribute [go_sem] Go.Proofs.Tryz.results266
@[go_sem] def hr228:ZW:=hh [[0,1],[0,3]]
@[go_sem] def hl228:ZW:=hh []
attribute [go_sem] Go.Proofs.Tryz.results228
@[go_sem] def hr258:ZW:=hh [[0,1],[0,1],[0,1,7,8],[0,1,7,8],[0,1,5,7,8],[5],[0,1,7,8],[]]
@[go_sem] def hl258:ZW:=hh [[],[],[0,1,7,8]]
attribute [go_sem] Go.Proofs.Tryz.results258
@[go_sem] def hr214:ZW:=hh [[0,1],[0,1]]
@[go_sem] def hl214:ZW:=hh []
attribute [go_sem] Go.Proofs.Tryz.results214
@[go_sem] def hr157:ZW:=hh [[0],[1],[],[1],[1],[1],[1,43,44,45],[1,43,44,45],[1,3,4,43,44,45],[],[1,43,44,45],[1]]
@[go_sem] def hl157:ZW:=hh [[],[],[],[],[],[],[1,43,44,45]]
attribute [go_sem] Go.Proofs.Tryz.results157
@[go_sem] def hr155:ZW:=hh [[0,1],[0,1],[0,1,5,6,7],[0],[0],[0,5,6],[0,5]]
@[go_sem] def hl155:ZW:=hh []
attribute [go_sem] Go.Proofs.Tryz.results155
@[go_sem] def hr156:ZW:=hh [[0],[0],[0,3,4,5],[0],[0],[0,3,4],[0,3]]
@[go_sem] def hl156:ZW:=hh []
attribute [go_sem] Go.Proofs.Tryz.results156
def ZyZ:Option Z1→V
 |none=> .tup [.d (.agg Z1.zero.cells),.d (.bool false)]
 |some n=> .tup [.d (.agg n.cells),.d (.bool true)]
@[go_sem] def hr73:ZW:=hh [[0],[0,2],[2,4,5],[2],[2,4],[2,4,6],[2,4,6,7],[2,4,6,7,36,37],[2,4,6,7,36,37],[2,4,6,7,36,37],[2,4,6,7,36,37],[2,4,6,7,36,37],[2,4,6,7,36,37],[2,4,6,7],[2],[2,6]]
@[go_sem] def hl73:ZW:=hh [[],[],[],[],[],[],[],[2,4,6,7,36,37]]
attribute [go_sem] Go.Proofs.Tryz.results73
@[go_sem] def hr179:ZW:=hh [[0],[1],[1,3],[],[1,3],[1,3,4],[1,3,4],[1,3,4],[],[1,3,4],[],[1,3,4],[1,3,4],[],[1,3,4],[1,3,4,5],[1,3,4,5],[1,3,4,5],[],[]]
@[go_sem] def hl179:ZW:=hh [[],[],[],[],[],[1,3,4],[],[],[],[],[],[],[],[],[],[1,3,4,5]]
attribute [go_sem] Go.Proofs.Tryz.results179
theorem ZvD (n:Z1) (h1:n.Zj.length≤LEN) (h2:n.ZJ.length≤LEN) (h3:n.Zk.length≤LEN):ZQ Go.Proofs.Tryz.prog 179 [.d (.agg n.cells)] [] [.dead] (.d (.bool (decide (ZaA n)))) []:=by
 refine cof Go.Proofs.Tryz.func179 hr179 hl179 [false] ?_;simp -implicitDefEqProofs only [go_sem,Z1.cells];by_cases g1:(1:Int)≤n.Zj.length∧(n.Zj.length:Int)≤4
 ·have d1:=decide_eq_true g1;refine Zbx _ _ _ rfl ?_;cases hl:n.Zn
  ·have hiff:=Ze4 hl;by_cases g2:(n.Zk.length:Int)=n.Zj.length
   ·have d2:=decide_eq_true g2;by_cases g3:(n.ZJ.length:Int)=0
    ·have d3:=decide_eq_true g3;simp -implicitDefEqProofs only [go_sem,d1,d2,d3];repeat ((first|refine rq ?_|fail);simp -implicitDefEqProofs only [go_sem,d1,d2,d3])
     refine ZY (α:=Nat) (fun i=>⟨[(1,.ref 0 0),(3,.d (.int .i64 n.Zj.length)),(4,.d (.int .i64 i))],[(0,some (.box [.d (.bool false),.d (.sl (strs n.Zj)),.d (.sl (strs n.ZJ)),.d (.sl (ints n.Zk))]))]⟩)
      (fun i=>i≤n.Zj.length∧ascK (n.Zj.take i)∧(∀k∈n.Zj.take i,k.length≤24)∧(∀k∈n.Zk.take i,2≤k∧k≤39)∧(n.Zk.take i).Nodup) (fun i=>n.Zj.length - i) 0 rfl ⟨Nat.zero_le _,by simp [ascK],by simp,by simp,by simp⟩ ?_
     rintro i ⟨i1,i2,i3,i4,i5⟩;simp -implicitDefEqProofs only [go_sem];refine fork (fun h5=>?_) (fun h5=>?_)
     ·simp -implicitDefEqProofs only [go_sem];obtain ⟨p,hp⟩:=Z3 (l:=n.Zj) (i:=i) (by omega);by_cases h6:(24:Int)<p.length
      ·have d6:=decide_eq_true h6;simp -implicitDefEqProofs only [go_sem,ZM hp,d6];repeat ((first|refine rq ?_|fail);simp -implicitDefEqProofs only [go_sem,ZM hp,d6])
       have:¬ZaA n:=fun h=>by have:=h.2.2.2.1 p (List.mem_of_getElem? hp);omega
       simp [this]
      ·have d6:=decide_eq_false h6;rcases Nat.eq_zero_or_pos i with hi|hi
       ·have hg:decide ((0:Int)<(i:Int))=false:=decide_eq_false (by omega);have hasc:ascK (n.Zj.take (i+1)):=by subst hi;rw [Z7 hp];simp [ascK]
        simp -implicitDefEqProofs only [go_sem,ZM hp,d6,hg];repeat ((first|refine rq ?_|fail);simp -implicitDefEqProofs only [go_sem,ZM hp,d6,hg])
        obtain ⟨c,hc⟩:=Z3 (l:=n.Zk) (i:=i) (by omega);simp -implicitDefEqProofs only [go_sem,ZO hc];by_cases g4:2≤c∧c≤39
        ·have d4:=decide_eq_true g4;repeat ((first|refine rq ?_|refine Zbx _ _ _ rfl ?_|fail);simp -implicitDefEqProofs only [go_sem,ZO hc,d4])
         refine ZY (α:=Nat) (fun j=>⟨[(1,.ref 0 0),(3,.d (.int .i64 n.Zj.length)),(4,.d (.int .i64 i)),(5,.d (.int .i64 j))],[(0,some (.box [.d (.bool false),.d (.sl (strs n.Zj)),.d (.sl (strs n.ZJ)),.d (.sl (ints n.Zk))]))]⟩)
          (fun j=>j≤i∧c∉n.Zk.take j) (fun j=>i - j) 0 rfl ⟨Nat.zero_le _,by simp⟩ ?_
         rintro j ⟨j1,j2⟩;simp -implicitDefEqProofs only [go_sem];refine fork (fun h8=>?_) (fun h8=>?_)
         ·obtain ⟨e,he⟩:=Z3 (l:=n.Zk) (i:=j) (by omega);simp -implicitDefEqProofs only [go_sem,ZO hc,ZO he];repeat ((first|refine rq ?_|fail);simp -implicitDefEqProofs only [go_sem,ZO hc,ZO he])
          refine fork (fun h9=>?_) (fun h9=>?_)
          ·simp -implicitDefEqProofs only [go_sem];have:¬ZaA n:=fun h=>by
            have hnd:=(hiff.1 h).2.2.2.2.2.2;obtain ⟨q1,q2⟩:=List.getElem?_eq_some_iff.1 hc;obtain ⟨q3,q4⟩:=List.getElem?_eq_some_iff.1 he;exact List.pairwise_iff_getElem.1 hnd j i q3 q1 (by omega) (by rw [q2,q4,h9])
           simp [this]
          ·simp -implicitDefEqProofs only [go_sem];rw [ZV (by simp only [LEN];omega)];refine ZP (j+1) rfl ⟨by omega,fun hm=>?_⟩ (by omega);rcases ZbG he hm with hm|rfl
           ·exact j2 hm
           ·exact h9 rfl
         ·simp -implicitDefEqProofs only [go_sem];obtain rfl:j=i:=by omega
          rw [ZV (by simp only [LEN];omega)];refine ZP (j+1) rfl ⟨by omega,hasc,fun k hk=>?_,fun k hk=>?_,Zk5 hc i5 j2⟩ (by omega)
          ·rcases ZbG hp hk with hk|rfl
           ·exact i3 k hk
           ·omega
          ·rcases ZbG hc hk with hk|rfl
           ·exact i4 k hk
           ·exact g4
        ·have d4:=decide_eq_false g4;repeat ((first|refine rq ?_|refine Zbx _ _ _ rfl ?_|fail);simp -implicitDefEqProofs only [go_sem,ZO hc,d4])
         have:¬ZaA n:=fun h=>g4 ((hiff.1 h).2.2.2.2.2.1 c (List.mem_of_getElem? hc))
         simp [this]
       ·obtain ⟨j',hj'⟩:∃j,i=j+1:=⟨i - 1,by omega⟩;obtain ⟨q,hq⟩:=Z3 (l:=n.Zj) (i:=j') (by omega);have hg:decide ((0:Int)<(i:Int))=true:=decide_eq_true (by omega);have hj:IntKind.i64.wrap ((i:Int) - 1)=(j':Int):=by rw [Zad (by omega) (by omega)];omega
        simp -implicitDefEqProofs only [go_sem,ZM hp,ZM hq,d6,hg,hj];repeat ((first|refine rq ?_|fail);simp -implicitDefEqProofs only [go_sem,ZM hp,ZM hq,d6,hg,hj])
        cases hlt:Zax q p
        ·simp -implicitDefEqProofs only [go_sem];have:¬ZaA n:=fun h=>by rw [Zmv h.2.2.1 hq (hj'▸hp)] at hlt;cases hlt
         simp [this]
        ·have hasc:ascK (n.Zj.take (i+1)):=by subst hj';exact Zkl i2 hq hp hlt
         simp -implicitDefEqProofs only [go_sem];obtain ⟨c,hc⟩:=Z3 (l:=n.Zk) (i:=i) (by omega);simp -implicitDefEqProofs only [go_sem,ZO hc];by_cases g4:2≤c∧c≤39
         ·have d4:=decide_eq_true g4;repeat ((first|refine rq ?_|refine Zbx _ _ _ rfl ?_|fail);simp -implicitDefEqProofs only [go_sem,ZO hc,d4])
          refine ZY (α:=Nat) (fun j=>⟨[(1,.ref 0 0),(3,.d (.int .i64 n.Zj.length)),(4,.d (.int .i64 i)),(5,.d (.int .i64 j))],[(0,some (.box [.d (.bool false),.d (.sl (strs n.Zj)),.d (.sl (strs n.ZJ)),.d (.sl (ints n.Zk))]))]⟩)
           (fun j=>j≤i∧c∉n.Zk.take j) (fun j=>i - j) 0 rfl ⟨Nat.zero_le _,by simp⟩ ?_
          rintro j ⟨j1,j2⟩;simp -implicitDefEqProofs only [go_sem];refine fork (fun h8=>?_) (fun h8=>?_)
          ·obtain ⟨e,he⟩:=Z3 (l:=n.Zk) (i:=j) (by omega);simp -implicitDefEqProofs only [go_sem,ZO hc,ZO he];repeat ((first|refine rq ?_|fail);simp -implicitDefEqProofs only [go_sem,ZO hc,ZO he])
           refine fork (fun h9=>?_) (fun h9=>?_)
           ·simp -implicitDefEqProofs only [go_sem];have:¬ZaA n:=fun h=>by
             have hnd:=(hiff.1 h).2.2.2.2.2.2;obtain ⟨q1,q2⟩:=List.getElem?_eq_some_iff.1 hc;obtain ⟨q3,q4⟩:=List.getElem?_eq_some_iff.1 he;exact List.pairwise_iff_getElem.1 hnd j i q3 q1 (by omega) (by rw [q2,q4,h9])
            simp [this]
           ·simp -implicitDefEqProofs only [go_sem];rw [ZV (by simp only [LEN];omega)];refine ZP (j+1) rfl ⟨by omega,fun hm=>?_⟩ (by omega);rcases ZbG he hm with hm|rfl
            ·exact j2 hm
            ·exact h9 rfl
          ·simp -implicitDefEqProofs only [go_sem];obtain rfl:j=i:=by omega
           rw [ZV (by simp only [LEN];omega)];refine ZP (j+1) rfl ⟨by omega,hasc,fun k hk=>?_,fun k hk=>?_,Zk5 hc i5 j2⟩ (by omega)
           ·rcases ZbG hp hk with hk|rfl
            ·exact i3 k hk
            ·omega
           ·rcases ZbG hc hk with hk|rfl
            ·exact i4 k hk
            ·exact g4
         ·have d4:=decide_eq_false g4;repeat ((first|refine rq ?_|refine Zbx _ _ _ rfl ?_|fail);simp -implicitDefEqProofs only [go_sem,ZO hc,d4])
          have:¬ZaA n:=fun h=>g4 ((hiff.1 h).2.2.2.2.2.1 c (List.mem_of_getElem? hc))
          simp [this]
     ·simp -implicitDefEqProofs only [go_sem];rw [List.take_of_length_le (by omega)] at i2 i3 i4 i5;have:ZaA n:=hiff.2 ⟨by omega,i2,i3,by omega,by omega,i4,i5⟩;simp [this]
    ·have d3:=decide_eq_false g3;simp -implicitDefEqProofs only [go_sem,d1,d2,d3];repeat ((first|refine rq ?_|fail);simp -implicitDefEqProofs only [go_sem,d1,d2,d3])
     have:¬ZaA n:=fun h=>g3 (by have:=(hiff.1 h).2.2.2.2.1;omega)
     simp [this]
   ·have d2:=decide_eq_false g2;simp -implicitDefEqProofs only [go_sem,d1,d2];repeat ((first|refine rq ?_|fail);simp -implicitDefEqProofs only [go_sem,d1,d2])
    have:¬ZaA n:=fun h=>g2 (by have:=(hiff.1 h).2.2.2.1;omega)
    simp [this]
  ·have hiff:=ZgD hl;by_cases g2:(n.ZJ.length:Int)=n.Zj.length
   ·have d2:=decide_eq_true g2;by_cases g3:(n.Zk.length:Int)=0
    ·have d3:=decide_eq_true g3;simp -implicitDefEqProofs only [go_sem,d1,d2,d3];repeat ((first|refine rq ?_|fail);simp -implicitDefEqProofs only [go_sem,d1,d2,d3])
     refine ZY (α:=Nat) (fun i=>⟨[(1,.ref 0 0),(3,.d (.int .i64 n.Zj.length)),(4,.d (.int .i64 i))],[(0,some (.box [.d (.bool true),.d (.sl (strs n.Zj)),.d (.sl (strs n.ZJ)),.d (.sl (ints n.Zk))]))]⟩)
      (fun i=>i≤n.Zj.length∧ascK (n.Zj.take i)∧(∀k∈n.Zj.take i,k.length≤24)∧(∀v∈n.ZJ.take i,v.length≤24)) (fun i=>n.Zj.length - i) 0 rfl ⟨Nat.zero_le _,by simp [ascK],by simp,by simp⟩ ?_
     rintro i ⟨i1,i2,i3,i4⟩;simp -implicitDefEqProofs only [go_sem];refine fork (fun h5=>?_) (fun h5=>?_)
     ·simp -implicitDefEqProofs only [go_sem];obtain ⟨p,hp⟩:=Z3 (l:=n.Zj) (i:=i) (by omega);by_cases h6:(24:Int)<p.length
      ·have d6:=decide_eq_true h6;simp -implicitDefEqProofs only [go_sem,ZM hp,d6];repeat ((first|refine rq ?_|fail);simp -implicitDefEqProofs only [go_sem,ZM hp,d6])
       have:¬ZaA n:=fun h=>by have:=h.2.2.2.1 p (List.mem_of_getElem? hp);omega
       simp [this]
      ·have d6:=decide_eq_false h6;rcases Nat.eq_zero_or_pos i with hi|hi
       ·have hg:decide ((0:Int)<(i:Int))=false:=decide_eq_false (by omega);have hasc:ascK (n.Zj.take (i+1)):=by subst hi;rw [Z7 hp];simp [ascK]
        simp -implicitDefEqProofs only [go_sem,ZM hp,d6,hg];repeat ((first|refine rq ?_|fail);simp -implicitDefEqProofs only [go_sem,ZM hp,d6,hg])
        obtain ⟨v,hv⟩:=Z3 (l:=n.ZJ) (i:=i) (by omega);simp -implicitDefEqProofs only [go_sem,ZM hv];repeat ((first|refine rq ?_|fail);simp -implicitDefEqProofs only [go_sem,ZM hv])
        refine fork (fun h8=>?_) (fun h8=>?_)
        ·simp -implicitDefEqProofs only [go_sem];have:¬ZaA n:=fun h=>by have:=(hiff.1 h).2.2.2.2.1 v (List.mem_of_getElem? hv);omega
         simp [this]
        ·simp -implicitDefEqProofs only [go_sem];rw [ZV (by simp only [LEN];omega)];refine ZP (i+1) rfl ⟨by omega,hasc,fun k hk=>?_,fun w hw=>?_⟩ (by omega)
         ·rcases ZbG hp hk with hk|rfl
          ·exact i3 k hk
          ·omega
         ·rcases ZbG hv hw with hw|rfl
          ·exact i4 w hw
          ·omega
       ·obtain ⟨j',hj'⟩:∃j,i=j+1:=⟨i - 1,by omega⟩;obtain ⟨q,hq⟩:=Z3 (l:=n.Zj) (i:=j') (by omega);have hg:decide ((0:Int)<(i:Int))=true:=decide_eq_true (by omega);have hj:IntKind.i64.wrap ((i:Int) - 1)=(j':Int):=by rw [Zad (by omega) (by omega)];omega
        simp -implicitDefEqProofs only [go_sem,ZM hp,ZM hq,d6,hg,hj];repeat ((first|refine rq ?_|fail);simp -implicitDefEqProofs only [go_sem,ZM hp,ZM hq,d6,hg,hj])
        cases hlt:Zax q p
        ·simp -implicitDefEqProofs only [go_sem];have:¬ZaA n:=fun h=>by rw [Zmv h.2.2.1 hq (hj'▸hp)] at hlt;cases hlt
         simp [this]
        ·have hasc:ascK (n.Zj.take (i+1)):=by subst hj';exact Zkl i2 hq hp hlt
         simp -implicitDefEqProofs only [go_sem];obtain ⟨v,hv⟩:=Z3 (l:=n.ZJ) (i:=i) (by omega);simp -implicitDefEqProofs only [go_sem,ZM hv];repeat ((first|refine rq ?_|fail);simp -implicitDefEqProofs only [go_sem,ZM hv])
         refine fork (fun h8=>?_) (fun h8=>?_)
         ·simp -implicitDefEqProofs only [go_sem];have:¬ZaA n:=fun h=>by have:=(hiff.1 h).2.2.2.2.1 v (List.mem_of_getElem? hv);omega
          simp [this]
         ·simp -implicitDefEqProofs only [go_sem];rw [ZV (by simp only [LEN];omega)];refine ZP (i+1) rfl ⟨by omega,hasc,fun k hk=>?_,fun w hw=>?_⟩ (by omega)
          ·rcases ZbG hp hk with hk|rfl
           ·exact i3 k hk
           ·omega
          ·rcases ZbG hv hw with hw|rfl
           ·exact i4 w hw
           ·omega
     ·simp -implicitDefEqProofs only [go_sem];rw [List.take_of_length_le (by omega)] at i2 i3 i4;have:ZaA n:=hiff.2 ⟨by omega,i2,i3,by omega,i4,by omega⟩;simp [this]
    ·have d3:=decide_eq_false g3;simp -implicitDefEqProofs only [go_sem,d1,d2,d3];repeat ((first|refine rq ?_|fail);simp -implicitDefEqProofs only [go_sem,d1,d2,d3])
     have:¬ZaA n:=fun h=>g3 (by have:=(hiff.1 h).2.2.2.2.2;omega)
     simp [this]
   ·have d2:=decide_eq_false g2;simp -implicitDefEqProofs only [go_sem,d1,d2];repeat ((first|refine rq ?_|fail);simp -implicitDefEqProofs only [go_sem,d1,d2])
    have:¬ZaA n:=fun h=>g2 (by have:=(hiff.1 h).2.2.2.1;omega)
    simp [this]
 ·have d1:=decide_eq_false g1;refine Zbx _ _ _ rfl ?_;cases hl:n.Zn
  ·simp -implicitDefEqProofs only [go_sem,d1];repeat ((first|refine rq ?_|fail);simp -implicitDefEqProofs only [go_sem,d1])
   have:¬ZaA n:=fun h=>g1 ⟨by have:=h.1;omega,by have:=h.2.1;omega⟩
   simp [this]
  ·simp -implicitDefEqProofs only [go_sem,d1];repeat ((first|refine rq ?_|fail);simp -implicitDefEqProofs only [go_sem,d1])
   have:¬ZaA n:=fun h=>g1 ⟨by have:=h.1;omega,by have:=h.2.1;omega⟩
   simp [this]
def ZuQ (n:Z1) (h1:n.Zj.length≤LEN) (h2:n.ZJ.length≤LEN) (h3:n.Zk.length≤LEN):=kf (ZvD n h1 h2 h3)
end Go.Rx
