/-
  Part A2: lemmas on an evaluator over plain data of the model's code, plain laws on lists and numbers, or contracts of functions of the program; each lemma names its conditions.
-/
import Derived.Test.YtmeinhaecplpkaaGreatRA1
import Derived.Test.YtmeinhaecplpkaaGreatRP1

set_option linter.unusedSimpArgs false
set_option linter.unusedVariables false
namespace Go.Rx
open Go
attribute [local irreducible] Req Way WayG Sel callVC CallOK seqVC cVC loopVC nextK
@[go_sem] def hr210:Hints
 |0=> [0,1]|1=> [0,1]|2=> [0,1,7,8]|3=> [0,1,7,8]|4=> [0,1,5,7,8]|5=> [5]|6=> [0,1,7,8]|7=> []|_=> []
@[go_sem] def hl210:Hints
 |2=> [0,1,7,8]|_=> []
attribute [go_sem] Go.Proofs.Tryz.results210
@[go_sem] def hr166:Hints
 |0=> [0,1]|1=> [0,1]|_=> []
@[go_sem] def hl166:Hints:=fun _=> []
attribute [go_sem] Go.Proofs.Tryz.results166
@[go_sem] def hr206:Hints
 |0=> [0]|1=> [0]|2=> [0,5,6]|3=> [0,5,6]|4=> [0,3,5,6]|5=> []|6=> [0,5,6]|7=> []|_=> []
@[go_sem] def hl206:Hints
 |2=> [0,5,6]|_=> []
attribute [go_sem] Go.Proofs.Tryz.results206
@[go_sem] def hr243:Hints
 |0=> [0,1]|1=> [0,1]|_=> []
@[go_sem] def hl243:Hints:=fun _=> []
attribute [go_sem] Go.Proofs.Tryz.results243
@[go_sem] def hr207:Hints
 |0=> [0,1]|1=> [0,3]|_=> []
@[go_sem] def hl207:Hints:=fun _=> []
attribute [go_sem] Go.Proofs.Tryz.results207
@[go_sem] def hr190:Hints
 |0=> [0,1]|1=> [0,1]|2=> [0,1,7,8]|3=> [0,1,7,8]|4=> [0,1,5,7,8]|5=> [5]|6=> [0,1,7,8]|7=> []|_=> []
@[go_sem] def hl190:Hints
 |2=> [0,1,7,8]|_=> []
attribute [go_sem] Go.Proofs.Tryz.results190
@[go_sem] def hr138:Hints
 |0=> [0,1]|1=> [0,1]|_=> []
@[go_sem] def hl138:Hints:=fun _=> []
attribute [go_sem] Go.Proofs.Tryz.results138
@[go_sem] def hr155:Hints
 |0=> [0]|1=> [1]|2=> []|3=> [1]|4=> [1]|5=> [1]|6=> [1,43,44,45]|7=> [1,43,44,45]|8=> [1,3,4,43,44,45]|9=> []|10=> [1,43,44,45]|11=> [1]|_=> []
@[go_sem] def hl155:Hints
 |6=> [1,43,44,45]|_=> []
attribute [go_sem] Go.Proofs.Tryz.results155
end Go.Rx
namespace Go.Rx
open Go
attribute [local irreducible] Req Way WayG Sel callVC CallOK seqVC cVC loopVC nextK
@[go_sem] def hr153:Hints
 |0=> [0,1]|1=> [0,1]|2=> [0,1,5,6,7]|3=> [0]|4=> [0]|5=> [0,5,6]|6=> [0,5]|_=> []
@[go_sem] def hl153:Hints:=fun _=> []
attribute [go_sem] Go.Proofs.Tryz.results153
@[go_sem] def hr154:Hints
 |0=> [0]|1=> [0]|2=> [0,3,4,5]|3=> [0]|4=> [0]|5=> [0,3,4]|6=> [0,3]|_=> []
@[go_sem] def hl154:Hints:=fun _=> []
attribute [go_sem] Go.Proofs.Tryz.results154
def nodeV:Option GNode→V
 |none=> .tup [.d (.agg GNode.zero.cells),.d (.bool false)]
 |some n=> .tup [.d (.agg n.cells),.d (.bool true)]
@[go_sem] def hr81:Hints
 |0=> [0]|1=> [0,2]|2=> [2,4,5]|3=> [2]|4=> [2,4]|5=> [2,4,6]|6=> [2,4,6,7]|7=> [2,4,6,7,36,37]|8=> [2,4,6,7,36,37]|9=> [2,4,6,7,36,37]|10=> [2,4,6,7,36,37]|11=> [2,4,6,7,36,37]|12=> [2,4,6,7,36,37]|13=> [2,4,6,7]|14=> [2]|15=> [2,6]|_=> []
@[go_sem] def hl81:Hints
 |7=> [2,4,6,7,36,37]|_=> []
attribute [go_sem] Go.Proofs.Tryz.results81
end Go.Rx
namespace Go.Rx
open Go
attribute [local irreducible] Req Way WayG Sel callVC CallOK seqVC cVC loopVC nextK
@[go_sem] def hr178:Hints
 |0=> [0]|1=> [1]|2=> [1,3]|3=> []|4=> [1,3]|5=> [1,3,4]|6=> [1,3,4]|7=> [1,3,4]|8=> []|9=> [1,3,4]|10=> []|11=> [1,3,4]|12=> [1,3,4]|13=> []|14=> [1,3,4]|15=> [1,3,4,5]|16=> [1,3,4,5]|17=> [1,3,4,5]|18=> []|19=> []|_=> []
@[go_sem] def hl178:Hints
 |5=> [1,3,4]|15=> [1,3,4,5]|_=> []
attribute [go_sem] Go.Proofs.Tryz.results178
set_option maxRecDepth 100000 in
set_option maxHeartbeats 16000000 in
theorem cs_NodeOk (n:GNode) (h1:n.fKeys.length≤LEN) (h2:n.fVals.length≤LEN) (h3:n.fKids.length≤LEN):CallOK Go.Proofs.Tryz.prog 178 [.d (.agg n.cells)] [] [.dead] (.d (.bool (decide (nodeOk n)))) []:=by
 refine call_of tysZOK mixedZ Go.Proofs.Tryz.func178 (by kernel_rfl) rfl (np:=[false]) (by kernel_rfl) hr178 hl178 (by simp [Go.Proofs.Tryz.ntmps178]) ?_
 simp -implicitDefEqProofs only [go_sem,GNode.cells]
 by_cases g1:(1:Int)≤n.fKeys.length∧(n.fKeys.length:Int)≤4
 ·have d1:=decide_eq_true g1
  refine ks_in _ _ _ rfl ?_
  cases hl:n.fLeaf
  ·have hiff:=nodeOk_branch hl
   by_cases g2:(n.fKids.length:Int)=n.fKeys.length
   ·have d2:=decide_eq_true g2
    by_cases g3:(n.fVals.length:Int)=0
    ·have d3:=decide_eq_true g3
     simp -implicitDefEqProofs only [go_sem,d1,d2,d3]
     repeat ((first|refine rq ?_|fail);simp -implicitDefEqProofs only [go_sem,d1,d2,d3])
     refine loop_data (α:=Nat) (fun i=>⟨[(1,.ref 0 0),(3,.d (.int .i64 n.fKeys.length)),(4,.d (.int .i64 i))],[(0,some (.box [.d (.bool false),.d (.sl (strs n.fKeys)),.d (.sl (strs n.fVals)),.d (.sl (ints n.fKids))]))]⟩)
      (fun i=>i≤n.fKeys.length∧ascK (n.fKeys.take i)∧(∀k∈n.fKeys.take i,k.length≤24)∧(∀k∈n.fKids.take i,2≤k∧k≤39)∧(n.fKids.take i).Nodup) (fun i=>n.fKeys.length - i) 0 rfl ⟨Nat.zero_le _,by simp [ascK],by simp,by simp,by simp⟩ ?_
     rintro i ⟨i1,i2,i3,i4,i5⟩
     simp -implicitDefEqProofs only [go_sem]
     (first|(refine way_dec (fun h5=>?_) (fun h5=>?_))|(refine way_ndec (fun h5=>?_) (fun h5=>?_))|(refine wayT_dec (fun h5=>?_) (fun h5=>?_))|(refine wayF_dec (fun h5=>?_) (fun h5=>?_))|(refine wayT_ndec (fun h5=>?_) (fun h5=>?_))|(refine wayF_ndec (fun h5=>?_) (fun h5=>?_))|(refine way_not (fun h5=>?_) (fun h5=>?_))|(refine way (fun h5=>?_) (fun h5=>?_))|(refine wayT (fun h5=>?_) (fun h5=>?_))|(refine wayF (fun h5=>?_) (fun h5=>?_)))
     ·simp -implicitDefEqProofs only [go_sem]
      obtain ⟨p,hp⟩:=some_at (l:=n.fKeys) (i:=i) (by omega)
      by_cases h6:(24:Int)<p.length
      ·have d6:=decide_eq_true h6
       simp -implicitDefEqProofs only [go_sem,lget_strs hp,d6]
       repeat ((first|refine rq ?_|fail);simp -implicitDefEqProofs only [go_sem,lget_strs hp,d6])
       have:¬nodeOk n:=fun h=>by have:=h.2.2.2.1 p (List.mem_of_getElem? hp);omega
       simp [this]
      ·have d6:=decide_eq_false h6
       rcases Nat.eq_zero_or_pos i with hi|hi
       ·have hg:decide ((0:Int)<(i:Int))=false:=decide_eq_false (by omega)
        have hasc:ascK (n.fKeys.take (i+1)):=by subst hi;rw [take_snoc hp];simp [ascK]
        simp -implicitDefEqProofs only [go_sem,lget_strs hp,d6,hg]
        repeat ((first|refine rq ?_|fail);simp -implicitDefEqProofs only [go_sem,lget_strs hp,d6,hg])
        obtain ⟨c,hc⟩:=some_at (l:=n.fKids) (i:=i) (by omega)
        simp -implicitDefEqProofs only [go_sem,lget_ints hc]
        by_cases g4:2≤c∧c≤39
        ·have d4:=decide_eq_true g4
         repeat ((first|refine rq ?_|refine ks_in _ _ _ rfl ?_|fail);simp -implicitDefEqProofs only [go_sem,lget_ints hc,d4])
         refine loop_data (α:=Nat) (fun j=>⟨[(1,.ref 0 0),(3,.d (.int .i64 n.fKeys.length)),(4,.d (.int .i64 i)),(5,.d (.int .i64 j))],[(0,some (.box [.d (.bool false),.d (.sl (strs n.fKeys)),.d (.sl (strs n.fVals)),.d (.sl (ints n.fKids))]))]⟩)
          (fun j=>j≤i∧c∉n.fKids.take j) (fun j=>i - j) 0 rfl ⟨Nat.zero_le _,by simp⟩ ?_
         rintro j ⟨j1,j2⟩
         simp -implicitDefEqProofs only [go_sem]
         (first|(refine way_dec (fun h8=>?_) (fun h8=>?_))|(refine way_ndec (fun h8=>?_) (fun h8=>?_))|(refine wayT_dec (fun h8=>?_) (fun h8=>?_))|(refine wayF_dec (fun h8=>?_) (fun h8=>?_))|(refine wayT_ndec (fun h8=>?_) (fun h8=>?_))|(refine wayF_ndec (fun h8=>?_) (fun h8=>?_))|(refine way_not (fun h8=>?_) (fun h8=>?_))|(refine way (fun h8=>?_) (fun h8=>?_))|(refine wayT (fun h8=>?_) (fun h8=>?_))|(refine wayF (fun h8=>?_) (fun h8=>?_)))
         ·obtain ⟨e,he⟩:=some_at (l:=n.fKids) (i:=j) (by omega)
          simp -implicitDefEqProofs only [go_sem,lget_ints hc,lget_ints he]
          repeat ((first|refine rq ?_|fail);simp -implicitDefEqProofs only [go_sem,lget_ints hc,lget_ints he])
          (first|(refine way_dec (fun h9=>?_) (fun h9=>?_))|(refine way_ndec (fun h9=>?_) (fun h9=>?_))|(refine wayT_dec (fun h9=>?_) (fun h9=>?_))|(refine wayF_dec (fun h9=>?_) (fun h9=>?_))|(refine wayT_ndec (fun h9=>?_) (fun h9=>?_))|(refine wayF_ndec (fun h9=>?_) (fun h9=>?_))|(refine way_not (fun h9=>?_) (fun h9=>?_))|(refine way (fun h9=>?_) (fun h9=>?_))|(refine wayT (fun h9=>?_) (fun h9=>?_))|(refine wayF (fun h9=>?_) (fun h9=>?_)))
          ·simp -implicitDefEqProofs only [go_sem]
           have:¬nodeOk n:=fun h=>by
            have hnd:=(hiff.1 h).2.2.2.2.2.2
            obtain ⟨q1,q2⟩:=List.getElem?_eq_some_iff.1 hc
            obtain ⟨q3,q4⟩:=List.getElem?_eq_some_iff.1 he
            exact List.pairwise_iff_getElem.1 hnd j i q3 q1 (by omega) (by rw [q2,q4,h9])
           simp [this]
          ·simp -implicitDefEqProofs only [go_sem]
           rw [wrap_succ (by simp only [LEN];omega)]
           refine next_data (j+1) rfl ⟨by omega,fun hm=>?_⟩ (by omega)
           rcases mem_takeS he hm with hm|rfl
           ·exact j2 hm
           ·exact h9 rfl
         ·simp -implicitDefEqProofs only [go_sem]
          obtain rfl:j=i:=by omega
          rw [wrap_succ (by simp only [LEN];omega)]
          refine next_data (j+1) rfl ⟨by omega,hasc,fun k hk=>?_,fun k hk=>?_,nodup_snoc hc i5 j2⟩ (by omega)
          ·rcases mem_takeS hp hk with hk|rfl
           ·exact i3 k hk
           ·omega
          ·rcases mem_takeS hc hk with hk|rfl
           ·exact i4 k hk
           ·exact g4
        ·have d4:=decide_eq_false g4
         repeat ((first|refine rq ?_|refine ks_in _ _ _ rfl ?_|fail);simp -implicitDefEqProofs only [go_sem,lget_ints hc,d4])
         have:¬nodeOk n:=fun h=>g4 ((hiff.1 h).2.2.2.2.2.1 c (List.mem_of_getElem? hc))
         simp [this]
       ·obtain ⟨j',hj'⟩:∃j,i=j+1:=⟨i - 1,by omega⟩
        obtain ⟨q,hq⟩:=some_at (l:=n.fKeys) (i:=j') (by omega)
        have hg:decide ((0:Int)<(i:Int))=true:=decide_eq_true (by omega)
        have hj:IntKind.i64.wrap ((i:Int) - 1)=(j':Int):=by rw [wrap_int (by omega) (by omega)];omega
        simp -implicitDefEqProofs only [go_sem,lget_strs hp,lget_strs hq,d6,hg,hj]
        repeat ((first|refine rq ?_|fail);simp -implicitDefEqProofs only [go_sem,lget_strs hp,lget_strs hq,d6,hg,hj])
        cases hlt:bLess q p
        ·simp -implicitDefEqProofs only [go_sem]
         have:¬nodeOk n:=fun h=>by rw [asc_next h.2.2.1 hq (hj'▸hp)] at hlt;cases hlt
         simp [this]
        ·have hasc:ascK (n.fKeys.take (i+1)):=by subst hj';exact ascK_snoc i2 hq hp hlt
         simp -implicitDefEqProofs only [go_sem]
         obtain ⟨c,hc⟩:=some_at (l:=n.fKids) (i:=i) (by omega)
         simp -implicitDefEqProofs only [go_sem,lget_ints hc]
         by_cases g4:2≤c∧c≤39
         ·have d4:=decide_eq_true g4
          repeat ((first|refine rq ?_|refine ks_in _ _ _ rfl ?_|fail);simp -implicitDefEqProofs only [go_sem,lget_ints hc,d4])
          refine loop_data (α:=Nat) (fun j=>⟨[(1,.ref 0 0),(3,.d (.int .i64 n.fKeys.length)),(4,.d (.int .i64 i)),(5,.d (.int .i64 j))],[(0,some (.box [.d (.bool false),.d (.sl (strs n.fKeys)),.d (.sl (strs n.fVals)),.d (.sl (ints n.fKids))]))]⟩)
           (fun j=>j≤i∧c∉n.fKids.take j) (fun j=>i - j) 0 rfl ⟨Nat.zero_le _,by simp⟩ ?_
          rintro j ⟨j1,j2⟩
          simp -implicitDefEqProofs only [go_sem]
          (first|(refine way_dec (fun h8=>?_) (fun h8=>?_))|(refine way_ndec (fun h8=>?_) (fun h8=>?_))|(refine wayT_dec (fun h8=>?_) (fun h8=>?_))|(refine wayF_dec (fun h8=>?_) (fun h8=>?_))|(refine wayT_ndec (fun h8=>?_) (fun h8=>?_))|(refine wayF_ndec (fun h8=>?_) (fun h8=>?_))|(refine way_not (fun h8=>?_) (fun h8=>?_))|(refine way (fun h8=>?_) (fun h8=>?_))|(refine wayT (fun h8=>?_) (fun h8=>?_))|(refine wayF (fun h8=>?_) (fun h8=>?_)))
          ·obtain ⟨e,he⟩:=some_at (l:=n.fKids) (i:=j) (by omega)
           simp -implicitDefEqProofs only [go_sem,lget_ints hc,lget_ints he]
           repeat ((first|refine rq ?_|fail);simp -implicitDefEqProofs only [go_sem,lget_ints hc,lget_ints he])
           (first|(refine way_dec (fun h9=>?_) (fun h9=>?_))|(refine way_ndec (fun h9=>?_) (fun h9=>?_))|(refine wayT_dec (fun h9=>?_) (fun h9=>?_))|(refine wayF_dec (fun h9=>?_) (fun h9=>?_))|(refine wayT_ndec (fun h9=>?_) (fun h9=>?_))|(refine wayF_ndec (fun h9=>?_) (fun h9=>?_))|(refine way_not (fun h9=>?_) (fun h9=>?_))|(refine way (fun h9=>?_) (fun h9=>?_))|(refine wayT (fun h9=>?_) (fun h9=>?_))|(refine wayF (fun h9=>?_) (fun h9=>?_)))
           ·simp -implicitDefEqProofs only [go_sem]
            have:¬nodeOk n:=fun h=>by
             have hnd:=(hiff.1 h).2.2.2.2.2.2
             obtain ⟨q1,q2⟩:=List.getElem?_eq_some_iff.1 hc
             obtain ⟨q3,q4⟩:=List.getElem?_eq_some_iff.1 he
             exact List.pairwise_iff_getElem.1 hnd j i q3 q1 (by omega) (by rw [q2,q4,h9])
            simp [this]
           ·simp -implicitDefEqProofs only [go_sem]
            rw [wrap_succ (by simp only [LEN];omega)]
            refine next_data (j+1) rfl ⟨by omega,fun hm=>?_⟩ (by omega)
            rcases mem_takeS he hm with hm|rfl
            ·exact j2 hm
            ·exact h9 rfl
          ·simp -implicitDefEqProofs only [go_sem]
           obtain rfl:j=i:=by omega
           rw [wrap_succ (by simp only [LEN];omega)]
           refine next_data (j+1) rfl ⟨by omega,hasc,fun k hk=>?_,fun k hk=>?_,nodup_snoc hc i5 j2⟩ (by omega)
           ·rcases mem_takeS hp hk with hk|rfl
            ·exact i3 k hk
            ·omega
           ·rcases mem_takeS hc hk with hk|rfl
            ·exact i4 k hk
            ·exact g4
         ·have d4:=decide_eq_false g4
          repeat ((first|refine rq ?_|refine ks_in _ _ _ rfl ?_|fail);simp -implicitDefEqProofs only [go_sem,lget_ints hc,d4])
          have:¬nodeOk n:=fun h=>g4 ((hiff.1 h).2.2.2.2.2.1 c (List.mem_of_getElem? hc))
          simp [this]
     ·simp -implicitDefEqProofs only [go_sem]
      rw [List.take_of_length_le (by omega)] at i2 i3 i4 i5
      have:nodeOk n:=hiff.2 ⟨by omega,i2,i3,by omega,by omega,i4,i5⟩
      simp [this]
    ·have d3:=decide_eq_false g3
     simp -implicitDefEqProofs only [go_sem,d1,d2,d3]
     repeat ((first|refine rq ?_|fail);simp -implicitDefEqProofs only [go_sem,d1,d2,d3])
     have:¬nodeOk n:=fun h=>g3 (by have:=(hiff.1 h).2.2.2.2.1;omega)
     simp [this]
   ·have d2:=decide_eq_false g2
    simp -implicitDefEqProofs only [go_sem,d1,d2]
    repeat ((first|refine rq ?_|fail);simp -implicitDefEqProofs only [go_sem,d1,d2])
    have:¬nodeOk n:=fun h=>g2 (by have:=(hiff.1 h).2.2.2.1;omega)
    simp [this]
  ·have hiff:=nodeOk_leaf hl
   by_cases g2:(n.fVals.length:Int)=n.fKeys.length
   ·have d2:=decide_eq_true g2
    by_cases g3:(n.fKids.length:Int)=0
    ·have d3:=decide_eq_true g3
     simp -implicitDefEqProofs only [go_sem,d1,d2,d3]
     repeat ((first|refine rq ?_|fail);simp -implicitDefEqProofs only [go_sem,d1,d2,d3])
     refine loop_data (α:=Nat) (fun i=>⟨[(1,.ref 0 0),(3,.d (.int .i64 n.fKeys.length)),(4,.d (.int .i64 i))],[(0,some (.box [.d (.bool true),.d (.sl (strs n.fKeys)),.d (.sl (strs n.fVals)),.d (.sl (ints n.fKids))]))]⟩)
      (fun i=>i≤n.fKeys.length∧ascK (n.fKeys.take i)∧(∀k∈n.fKeys.take i,k.length≤24)∧(∀v∈n.fVals.take i,v.length≤24)) (fun i=>n.fKeys.length - i) 0 rfl ⟨Nat.zero_le _,by simp [ascK],by simp,by simp⟩ ?_
     rintro i ⟨i1,i2,i3,i4⟩
     simp -implicitDefEqProofs only [go_sem]
     (first|(refine way_dec (fun h5=>?_) (fun h5=>?_))|(refine way_ndec (fun h5=>?_) (fun h5=>?_))|(refine wayT_dec (fun h5=>?_) (fun h5=>?_))|(refine wayF_dec (fun h5=>?_) (fun h5=>?_))|(refine wayT_ndec (fun h5=>?_) (fun h5=>?_))|(refine wayF_ndec (fun h5=>?_) (fun h5=>?_))|(refine way_not (fun h5=>?_) (fun h5=>?_))|(refine way (fun h5=>?_) (fun h5=>?_))|(refine wayT (fun h5=>?_) (fun h5=>?_))|(refine wayF (fun h5=>?_) (fun h5=>?_)))
     ·simp -implicitDefEqProofs only [go_sem]
      obtain ⟨p,hp⟩:=some_at (l:=n.fKeys) (i:=i) (by omega)
      by_cases h6:(24:Int)<p.length
      ·have d6:=decide_eq_true h6
       simp -implicitDefEqProofs only [go_sem,lget_strs hp,d6]
       repeat ((first|refine rq ?_|fail);simp -implicitDefEqProofs only [go_sem,lget_strs hp,d6])
       have:¬nodeOk n:=fun h=>by have:=h.2.2.2.1 p (List.mem_of_getElem? hp);omega
       simp [this]
      ·have d6:=decide_eq_false h6
       rcases Nat.eq_zero_or_pos i with hi|hi
       ·have hg:decide ((0:Int)<(i:Int))=false:=decide_eq_false (by omega)
        have hasc:ascK (n.fKeys.take (i+1)):=by subst hi;rw [take_snoc hp];simp [ascK]
        simp -implicitDefEqProofs only [go_sem,lget_strs hp,d6,hg]
        repeat ((first|refine rq ?_|fail);simp -implicitDefEqProofs only [go_sem,lget_strs hp,d6,hg])
        obtain ⟨v,hv⟩:=some_at (l:=n.fVals) (i:=i) (by omega)
        simp -implicitDefEqProofs only [go_sem,lget_strs hv]
        repeat ((first|refine rq ?_|fail);simp -implicitDefEqProofs only [go_sem,lget_strs hv])
        (first|(refine way_dec (fun h8=>?_) (fun h8=>?_))|(refine way_ndec (fun h8=>?_) (fun h8=>?_))|(refine wayT_dec (fun h8=>?_) (fun h8=>?_))|(refine wayF_dec (fun h8=>?_) (fun h8=>?_))|(refine wayT_ndec (fun h8=>?_) (fun h8=>?_))|(refine wayF_ndec (fun h8=>?_) (fun h8=>?_))|(refine way_not (fun h8=>?_) (fun h8=>?_))|(refine way (fun h8=>?_) (fun h8=>?_))|(refine wayT (fun h8=>?_) (fun h8=>?_))|(refine wayF (fun h8=>?_) (fun h8=>?_)))
        ·simp -implicitDefEqProofs only [go_sem]
         have:¬nodeOk n:=fun h=>by have:=(hiff.1 h).2.2.2.2.1 v (List.mem_of_getElem? hv);omega
         simp [this]
        ·simp -implicitDefEqProofs only [go_sem]
         rw [wrap_succ (by simp only [LEN];omega)]
         refine next_data (i+1) rfl ⟨by omega,hasc,fun k hk=>?_,fun w hw=>?_⟩ (by omega)
         ·rcases mem_takeS hp hk with hk|rfl
          ·exact i3 k hk
          ·omega
         ·rcases mem_takeS hv hw with hw|rfl
          ·exact i4 w hw
          ·omega
       ·obtain ⟨j',hj'⟩:∃j,i=j+1:=⟨i - 1,by omega⟩
        obtain ⟨q,hq⟩:=some_at (l:=n.fKeys) (i:=j') (by omega)
        have hg:decide ((0:Int)<(i:Int))=true:=decide_eq_true (by omega)
        have hj:IntKind.i64.wrap ((i:Int) - 1)=(j':Int):=by rw [wrap_int (by omega) (by omega)];omega
        simp -implicitDefEqProofs only [go_sem,lget_strs hp,lget_strs hq,d6,hg,hj]
        repeat ((first|refine rq ?_|fail);simp -implicitDefEqProofs only [go_sem,lget_strs hp,lget_strs hq,d6,hg,hj])
        cases hlt:bLess q p
        ·simp -implicitDefEqProofs only [go_sem]
         have:¬nodeOk n:=fun h=>by rw [asc_next h.2.2.1 hq (hj'▸hp)] at hlt;cases hlt
         simp [this]
        ·have hasc:ascK (n.fKeys.take (i+1)):=by subst hj';exact ascK_snoc i2 hq hp hlt
         simp -implicitDefEqProofs only [go_sem]
         obtain ⟨v,hv⟩:=some_at (l:=n.fVals) (i:=i) (by omega)
         simp -implicitDefEqProofs only [go_sem,lget_strs hv]
         repeat ((first|refine rq ?_|fail);simp -implicitDefEqProofs only [go_sem,lget_strs hv])
         (first|(refine way_dec (fun h8=>?_) (fun h8=>?_))|(refine way_ndec (fun h8=>?_) (fun h8=>?_))|(refine wayT_dec (fun h8=>?_) (fun h8=>?_))|(refine wayF_dec (fun h8=>?_) (fun h8=>?_))|(refine wayT_ndec (fun h8=>?_) (fun h8=>?_))|(refine wayF_ndec (fun h8=>?_) (fun h8=>?_))|(refine way_not (fun h8=>?_) (fun h8=>?_))|(refine way (fun h8=>?_) (fun h8=>?_))|(refine wayT (fun h8=>?_) (fun h8=>?_))|(refine wayF (fun h8=>?_) (fun h8=>?_)))
         ·simp -implicitDefEqProofs only [go_sem]
          have:¬nodeOk n:=fun h=>by have:=(hiff.1 h).2.2.2.2.1 v (List.mem_of_getElem? hv);omega
          simp [this]
         ·simp -implicitDefEqProofs only [go_sem]
          rw [wrap_succ (by simp only [LEN];omega)]
          refine next_data (i+1) rfl ⟨by omega,hasc,fun k hk=>?_,fun w hw=>?_⟩ (by omega)
          ·rcases mem_takeS hp hk with hk|rfl
           ·exact i3 k hk
           ·omega
          ·rcases mem_takeS hv hw with hw|rfl
           ·exact i4 w hw
           ·omega
     ·simp -implicitDefEqProofs only [go_sem]
      rw [List.take_of_length_le (by omega)] at i2 i3 i4
      have:nodeOk n:=hiff.2 ⟨by omega,i2,i3,by omega,i4,by omega⟩
      simp [this]
    ·have d3:=decide_eq_false g3
     simp -implicitDefEqProofs only [go_sem,d1,d2,d3]
     repeat ((first|refine rq ?_|fail);simp -implicitDefEqProofs only [go_sem,d1,d2,d3])
     have:¬nodeOk n:=fun h=>g3 (by have:=(hiff.1 h).2.2.2.2.2;omega)
     simp [this]
   ·have d2:=decide_eq_false g2
    simp -implicitDefEqProofs only [go_sem,d1,d2]
    repeat ((first|refine rq ?_|fail);simp -implicitDefEqProofs only [go_sem,d1,d2])
    have:¬nodeOk n:=fun h=>g2 (by have:=(hiff.1 h).2.2.2.1;omega)
    simp [this]
 ·have d1:=decide_eq_false g1
  refine ks_in _ _ _ rfl ?_
  cases hl:n.fLeaf
  ·simp -implicitDefEqProofs only [go_sem,d1]
   repeat ((first|refine rq ?_|fail);simp -implicitDefEqProofs only [go_sem,d1])
   have:¬nodeOk n:=fun h=>g1 ⟨by have:=h.1;omega,by have:=h.2.1;omega⟩
   simp [this]
  ·simp -implicitDefEqProofs only [go_sem,d1]
   repeat ((first|refine rq ?_|fail);simp -implicitDefEqProofs only [go_sem,d1])
   have:¬nodeOk n:=fun h=>g1 ⟨by have:=h.1;omega,by have:=h.2.1;omega⟩
   simp [this]
theorem ks_NodeOk {h:Heap} {tb:Nat} {K:OK} {args:List V} {ls:List Nat} (n:GNode) (h1:n.fKeys.length≤LEN) (h2:n.fVals.length≤LEN) (h3:n.fKids.length≤LEN) (hg:toDs h args=some ([.agg n.cells],ls))
  (hk:K (renV (bk tb ([])) (.d (.bool (decide (nodeOk n))))) (updN tb ([]) ([]))):callVC Go.Proofs.Tryz.prog h tb 178 args K:=
 call_free hg (cs_NodeOk n h1 h2 h3) rfl (.inr ⟨flat_of rfl,flatHB_of rfl⟩) hk
end Go.Rx
