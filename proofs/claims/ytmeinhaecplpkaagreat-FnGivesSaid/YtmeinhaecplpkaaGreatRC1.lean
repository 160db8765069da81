/-
  Part C1: lemmas on an evaluator over plain data of the model's code, plain laws on lists and numbers, or contracts of functions of the program; each lemma names its conditions.
-/
import Derived.Test.YtmeinhaecplpkaaGreatRA6
import Derived.Test.YtmeinhaecplpkaaGreatRA3
import Derived.Test.YtmeinhaecplpkaaGreatRA8
import Derived.Test.YtmeinhaecplpkaaGreatRP4
import Derived.Test.YtmeinhaecplpkaaGreatRE6

set_option linter.unusedSimpArgs false
set_option linter.unusedVariables false
namespace Go.Rx
open Go
attribute [local irreducible] Req Way WayG Sel callVC CallOK seqVC cVC loopVC nextK
@[go_sem] def hr125:Hints
 |0=> [0]|1=> [1,2]|2=> [1,2,3]|3=> [1,2,3]|4=> [1,2,3,4]|5=> [1,2,3,4]|6=> [1,2,3,4]|7=> [2,3]|_=> []
@[go_sem] def hl125:Hints
 |4=> [1,2,3,4]|_=> []
attribute [go_sem] Go.Proofs.Tryz.results125
set_option maxRecDepth 100000 in
set_option maxHeartbeats 16000000 in
theorem cs_l06Copy (m:GMeta) (hm:smallGMeta m):CallOK Go.Proofs.Tryz.prog 125 [.d (.agg m.cells)] [] [.dead] (.d (.agg m.cells)) []:=by
 refine call_fr tysZOK mixedZ Go.Proofs.Tryz.func125 (by kernel_rfl) rfl (by kernel_rfl) hr125 hl125 (by simp [Go.Proofs.Tryz.ntmps125]) rfl ?_
 obtain ⟨hm1,hm2⟩:=hm
 simp -implicitDefEqProofs only [go_sem,GMeta.cells]
 repeat ((first|refine rq ?_|refine wy ?_|refine wn ?_|refine gy ?_|refine gn ?_|fail);simp -implicitDefEqProofs only [go_sem,GMeta.cells])
 refine loop_data (α:=Nat) (fun i=>⟨[(1,.ref 0 0),(2,.ref 1 0),(3,.ref 3 0),(4,.d (.int .i64 i))],[(0,some (.box [.d (.int .i64 m.fTx),.d (.int .i64 m.fRoot),.d (.int .i64 m.fNext),.d (.sl (GFreeS m.fFrees))])),(1,some (.box [.d (.int .i64 0),.d (.int .i64 0),.d (.int .i64 0),.own 2 0 0])),(2,some (.arr 2 [])),(3,some (.box [.d (.int .i64 m.fTx),.d (.int .i64 m.fRoot),.d (.int .i64 m.fNext),.own 4 0 i])),(4,some (.arr 2 (GFreeS (m.fFrees.take i))))]⟩)
  (fun i=>i≤m.fFrees.length) (fun i=>m.fFrees.length - i) 0 rfl (Nat.zero_le _) ?_
 rintro i i1
 simp -implicitDefEqProofs only [go_sem]
 (first|(refine way_dec (fun h5=>?_) (fun h5=>?_))|(refine way_ndec (fun h5=>?_) (fun h5=>?_))|(refine wayT_dec (fun h5=>?_) (fun h5=>?_))|(refine wayF_dec (fun h5=>?_) (fun h5=>?_))|(refine wayT_ndec (fun h5=>?_) (fun h5=>?_))|(refine wayF_ndec (fun h5=>?_) (fun h5=>?_))|(refine way_not (fun h5=>?_) (fun h5=>?_))|(refine way (fun h5=>?_) (fun h5=>?_))|(refine wayT (fun h5=>?_) (fun h5=>?_))|(refine wayF (fun h5=>?_) (fun h5=>?_)))
 ·obtain ⟨p,hp⟩:=some_at h5
  have hpl:p.fPages.length≤1048576:=hm2 p (List.mem_of_getElem? hp)
  simp -implicitDefEqProofs only [go_sem,lget_GFreeS hp]
  repeat ((first|refine rq ?_|refine wy ?_|refine wn ?_|refine gy ?_|refine gn ?_|fail);simp -implicitDefEqProofs only [go_sem,lget_GFreeS hp])
  rw [wrap_succ (by simp only [LEN];omega)]
  refine next_data (i+1) ?_ (by omega) (by omega)
  simp [take_snoc hp,GFreeS,GFree.cells,List.take_take]
 ·have hi:i=m.fFrees.length:=by omega
  subst hi
  simp -implicitDefEqProofs only [go_sem,List.take_length]
  repeat ((first|refine rq ?_|refine wy ?_|refine wn ?_|refine gy ?_|refine gn ?_|fail);simp -implicitDefEqProofs only [go_sem,List.take_length])
  rfl
theorem ks_l06Copy {h:Heap} {tb:Nat} {K:OK} {args:List V} (m:GMeta) (hm:smallGMeta m) (hg:toDs h args=some ([.agg m.cells],[]))
  (hk:K (renV (bk tb ([])) (.d (.agg m.cells))) (updN tb ([]) ([]))):callVC Go.Proofs.Tryz.prog h tb 125 args K:=
 call_free hg (cs_l06Copy m hm) rfl (.inl rfl) hk
@[go_sem] def hr67:Hints
 |0=> [0]|1=> [1]|2=> []|3=> [1]|4=> [1,3]|5=> [1,3,4]|6=> [1,3,4]|7=> [1,3,4]|8=> [1,3,4,5]|9=> []|10=> [1,3,4,5]|11=> [1,3,4,5,6]|12=> [1,3,4,5,6]|13=> [1,3,4,5,6]|14=> []|15=> [1,3,4,5,6]|16=> []|_=> []
@[go_sem] def hl67:Hints
 |5=> [1,3,4]|11=> [1,3,4,5,6]|_=> []
attribute [go_sem] Go.Proofs.Tryz.results67
set_option maxRecDepth 100000 in
set_option maxHeartbeats 16000000 in
theorem cs_MetaOk (m:GMeta) (hm:smallGMeta m):CallOK Go.Proofs.Tryz.prog 67 [.d (.agg m.cells)] [] [.dead] (.d (.bool (decide (metaOk m)))) []:=by
 refine call_of tysZOK mixedZ Go.Proofs.Tryz.func67 (by kernel_rfl) rfl (np:=[false]) (by kernel_rfl) hr67 hl67 (by simp [Go.Proofs.Tryz.ntmps67]) ?_
 obtain ⟨hm1,hm2⟩:=hm
 by_cases c1:0≤m.fTx∧m.fTx≤100000
 ·have d1:=decide_eq_true c1
  by_cases c2:2≤m.fNext∧m.fNext≤40
  ·have d2:=decide_eq_true c2
   have e2:IntKind.i64.wrap (m.fNext - 1)=m.fNext - 1:=wrap_int (by omega) (by omega)
   by_cases c3:m.fRoot=0∨2≤m.fRoot∧m.fRoot≤m.fNext - 1
   ·have d3:decide (m.fRoot=0)=true∨decide (m.fRoot=0)=false∧decide (2≤m.fRoot∧m.fRoot≤m.fNext - 1)=true:=by
     by_cases h:m.fRoot=0
     ·exact .inl (decide_eq_true h)
     ·exact .inr ⟨decide_eq_false h,decide_eq_true (c3.resolve_left h)⟩
    by_cases c4:m.fFrees.length≤20
    ·have d4:decide ((20:Int)<(m.fFrees.length:Int))=false:=decide_eq_false (by omega)
     have hd:metaHead m:=⟨c1,c2,c3,c4⟩
     refine (fun (main:Later ?Pb)=>?_) ⟨?mainB⟩
     rotate_left
     ·rcases d3 with d3|⟨d3,d5⟩
      ·simp -implicitDefEqProofs only [go_sem,GMeta.cells,d1,d2,d3,d4]
       repeat ((first|refine rq ?_|refine wy ?_|refine wn ?_|refine gy ?_|refine gn ?_|refine ks_in _ _ _ rfl ?_|fail);simp -implicitDefEqProofs only [go_sem,GMeta.cells,d1,d2,d3,d4])
       exact main.get
      ·simp -implicitDefEqProofs only [go_sem,GMeta.cells,d1,d2,d3,e2,d5,d4]
       repeat ((first|refine rq ?_|refine wy ?_|refine wn ?_|refine gy ?_|refine gn ?_|refine ks_in _ _ _ rfl ?_|fail);simp -implicitDefEqProofs only [go_sem,GMeta.cells,d1,d2,d3,e2,d5,d4])
       exact main.get
     refine loop_data (α:=Nat) (fun i=>⟨[(1,.ref 0 0),(3,.own 1 0 (m.fRoot::freePages (m.fFrees.take i)).length),(4,.d (.int .i64 i))],[(0,some (.box [.d (.int .i64 m.fTx),.d (.int .i64 m.fRoot),.d (.int .i64 m.fNext),.d (.sl (GFreeS m.fFrees))])),(1,some (.arr 1 (ints (m.fRoot::freePages (m.fFrees.take i)))))]⟩)
      (fun i=>i≤m.fFrees.length∧freesOk m (m.fFrees.take i)) (fun i=>m.fFrees.length - i) 0 rfl ⟨Nat.zero_le _,freesOk_nil⟩ ?_
     rintro i ⟨i1,i2⟩
     have hno:∀j,¬freesOk m (m.fFrees.take j)→decide (metaOk m)=false:=fun j hh=>decide_eq_false fun h2=>hh (freesOk_take h2.2)
     have hsl:(m.fRoot::freePages (m.fFrees.take i)).length≤900:=by
      have:=freePages_len i2.1
      simp only [List.length_take,List.length_cons] at this ⊢;omega
     have hSnd:(m.fRoot::freePages (m.fFrees.take i)).Nodup:=i2.2.2
     simp -implicitDefEqProofs only [go_sem]
     (first|(refine way_dec (fun h5=>?_) (fun h5=>?_))|(refine way_ndec (fun h5=>?_) (fun h5=>?_))|(refine wayT_dec (fun h5=>?_) (fun h5=>?_))|(refine wayF_dec (fun h5=>?_) (fun h5=>?_))|(refine wayT_ndec (fun h5=>?_) (fun h5=>?_))|(refine wayF_ndec (fun h5=>?_) (fun h5=>?_))|(refine way_not (fun h5=>?_) (fun h5=>?_))|(refine way (fun h5=>?_) (fun h5=>?_))|(refine wayT (fun h5=>?_) (fun h5=>?_))|(refine wayF (fun h5=>?_) (fun h5=>?_)))
     ·obtain ⟨f,hf⟩:=some_at h5
      have hst:m.fFrees.take (i+1)=m.fFrees.take i++[f]:=take_snoc hf
      have hne:¬((1≤f.fTx∧f.fTx≤m.fTx)∧(∀g,(m.fFrees.take i).getLast? =some g→g.fTx<f.fTx)∧(1≤f.fPages.length∧f.fPages.length≤40)∧partOk m (m.fRoot::freePages (m.fFrees.take i)) f.fPages)→decide (metaOk m)=false:=fun hh=>hno (i+1) fun h2=>hh (by rw [hst,freesOk_snoc] at h2;exact h2.2)
      have hSn:m.fRoot::freePages (m.fFrees.take (i+1))=(m.fRoot::freePages (m.fFrees.take i))++f.fPages:=by rw [hst,freePages_snoc];rfl
      have hnext:(1≤f.fTx∧f.fTx≤m.fTx)→(∀g,(m.fFrees.take i).getLast? =some g→g.fTx<f.fTx)→(1≤f.fPages.length∧f.fPages.length≤40)→partOk m (m.fRoot::freePages (m.fFrees.take i)) f.fPages→freesOk m (m.fFrees.take (i+1)):=fun a b c d=>by rw [hst,freesOk_snoc];exact ⟨i2,a,b,c,d⟩
      generalize hS:m.fRoot::freePages (m.fFrees.take i)=S at*
      by_cases c6:1≤f.fTx∧f.fTx≤m.fTx
      ·have d6:=decide_eq_true c6
       have hord:(∃j q,i=j+1∧m.fFrees[j]? =some q∧¬q.fTx<f.fTx)∨(i=0∨∃j q,i=j+1∧m.fFrees[j]? =some q∧q.fTx<f.fTx):=by
        rcases Nat.eq_zero_or_pos i with hi|hi
        ·exact .inr (.inl hi)
        ·obtain ⟨q,hq⟩:=some_at (l:=m.fFrees) (i:=i - 1) (by omega)
         by_cases hlt:q.fTx<f.fTx
         ·exact .inr (.inr ⟨i - 1,q,by omega,hq,hlt⟩)
         ·exact .inl ⟨i - 1,q,by omega,hq,hlt⟩
       rcases hord with ⟨j,q,hj,hq,hlt⟩|hord
       ·have hg:decide ((0:Int)<(i:Int))=true:=decide_eq_true (by omega)
        have hjw:IntKind.i64.wrap ((i:Int) - 1)=(j:Int):=by rw [wrap_int (by omega) (by omega)];omega
        have dlt:decide (f.fTx≤q.fTx)=true:=decide_eq_true (by omega)
        rw [hne fun hh=>hlt (hh.2.1 q (by rw [hj];exact take_last hq))]
        simp -implicitDefEqProofs only [go_sem,lget_GFreeS hf,d6,hg,hjw,lget_GFreeS hq,dlt]
        repeat ((first|refine rq ?_|refine wy ?_|refine wn ?_|refine gy ?_|refine gn ?_|refine ks_in _ _ _ rfl ?_|fail);simp -implicitDefEqProofs only [go_sem,lget_GFreeS hf,d6,hg,hjw,lget_GFreeS hq,dlt])
       ·have hlast:∀g,(m.fFrees.take i).getLast? =some g→g.fTx<f.fTx:=by
         rcases hord with rfl|⟨j,q,rfl,hq,hlt⟩
         ·intro g hg;simp at hg
         ·intro g hg;rw [take_last_of hq hg];exact hlt
        by_cases c7:(1:Int)≤f.fPages.length∧(f.fPages.length:Int)≤40
        ·have d7:=decide_eq_true c7
         refine (fun (main:Later ?Pa)=>?_) ⟨?mainA⟩
         rotate_left
         ·rcases hord with hi|⟨j,q,hj,hq,hlt⟩
          ·have hg:decide ((0:Int)<(i:Int))=false:=decide_eq_false (by omega)
           simp -implicitDefEqProofs only [go_sem,lget_GFreeS hf,d6,hg,d7]
           repeat ((first|refine rq ?_|refine wy ?_|refine wn ?_|refine gy ?_|refine gn ?_|refine ks_in _ _ _ rfl ?_|fail);simp -implicitDefEqProofs only [go_sem,lget_GFreeS hf,d6,hg,d7])
           exact main.get
          ·have hg:decide ((0:Int)<(i:Int))=true:=decide_eq_true (by omega)
           have hjw:IntKind.i64.wrap ((i:Int) - 1)=(j:Int):=by rw [wrap_int (by omega) (by omega)];omega
           have dlt:decide (f.fTx≤q.fTx)=false:=decide_eq_false (by omega)
           simp -implicitDefEqProofs only [go_sem,lget_GFreeS hf,d6,hg,hjw,lget_GFreeS hq,dlt,d7]
           repeat ((first|refine rq ?_|refine wy ?_|refine wn ?_|refine gy ?_|refine gn ?_|refine ks_in _ _ _ rfl ?_|fail);simp -implicitDefEqProofs only [go_sem,lget_GFreeS hf,d6,hg,hjw,lget_GFreeS hq,dlt,d7])
           exact main.get
         refine loop_data (α:=Nat) (fun k=>⟨[(1,.ref 0 0),(3,.own 1 0 (S++f.fPages.take k).length),(4,.d (.int .i64 i)),(5,.ref 2 0),(6,.d (.int .i64 k))],[(0,some (.box [.d (.int .i64 m.fTx),.d (.int .i64 m.fRoot),.d (.int .i64 m.fNext),.d (.sl (GFreeS m.fFrees))])),(1,some (.arr 1 (ints (S++f.fPages.take k)))),(2,some (.box [.d (.int .i64 f.fTx),.d (.sl (ints f.fPages))]))]⟩)
          (fun k=>k≤f.fPages.length∧partOk m S (f.fPages.take k)) (fun k=>f.fPages.length - k) 0 (by simp [←hS]) ⟨Nat.zero_le _,partOk_nil hSnd⟩ ?_
         rintro k ⟨k1,k2⟩
         have hkl:(S++f.fPages.take k).length≤1000:=by simp only [List.length_append,List.length_take];omega
         simp -implicitDefEqProofs only [go_sem]
         (first|(refine way_dec (fun h8=>?_) (fun h8=>?_))|(refine way_ndec (fun h8=>?_) (fun h8=>?_))|(refine wayT_dec (fun h8=>?_) (fun h8=>?_))|(refine wayF_dec (fun h8=>?_) (fun h8=>?_))|(refine wayT_ndec (fun h8=>?_) (fun h8=>?_))|(refine wayF_ndec (fun h8=>?_) (fun h8=>?_))|(refine way_not (fun h8=>?_) (fun h8=>?_))|(refine way (fun h8=>?_) (fun h8=>?_))|(refine wayT (fun h8=>?_) (fun h8=>?_))|(refine wayF (fun h8=>?_) (fun h8=>?_)))
         ·obtain ⟨x,hx⟩:=some_at h8
          have hpt:f.fPages.take (k+1)=f.fPages.take k++[x]:=take_snoc hx
          have hpn:¬partOk m S (f.fPages.take (k+1))→decide (metaOk m)=false:=fun hh=>hne fun h2=>hh (partOk_take h2.2.2.2)
          by_cases c9:2≤x∧x≤m.fNext - 1
          ·have d9:=decide_eq_true c9
           have hord:(∃j q,k=j+1∧f.fPages[j]? =some q∧¬q<x)∨(k=0∨∃j q,k=j+1∧f.fPages[j]? =some q∧q<x):=by
            rcases Nat.eq_zero_or_pos k with hk|hk
            ·exact .inr (.inl hk)
            ·obtain ⟨q,hq⟩:=some_at (l:=f.fPages) (i:=k - 1) (by omega)
             by_cases hlt:q<x
             ·exact .inr (.inr ⟨k - 1,q,by omega,hq,hlt⟩)
             ·exact .inl ⟨k - 1,q,by omega,hq,hlt⟩
           rcases hord with ⟨j,q,hj,hq,hlt⟩|hord
           ·have hg:decide ((0:Int)<(k:Int))=true:=decide_eq_true (by omega)
            have hjw:IntKind.i64.wrap ((k:Int) - 1)=(j:Int):=by rw [wrap_int (by omega) (by omega)];omega
            have dlt:decide (x≤q)=true:=decide_eq_true (by omega)
            rw [hpn fun hh=>hlt (by rw [hpt,partOk_snoc] at hh;exact hh.2.2.1 q (by rw [hj];exact take_last hq))]
            simp -implicitDefEqProofs only [go_sem,lget_ints hx,e2,d9,hg,hjw,lget_ints hq,dlt]
            repeat ((first|refine rq ?_|refine wy ?_|refine wn ?_|refine gy ?_|refine gn ?_|refine ks_in _ _ _ rfl ?_|fail);simp -implicitDefEqProofs only [go_sem,lget_ints hx,e2,d9,hg,hjw,lget_ints hq,dlt])
           ·have hlast:∀g,(f.fPages.take k).getLast? =some g→g<x:=by
             rcases hord with rfl|⟨j,q,rfl,hq,hlt⟩
             ·intro g hg;simp at hg
             ·intro g hg;rw [take_last_of hq hg];exact hlt
            have hm1:(x∈S++f.fPages.take k∧decide (x∈S++f.fPages.take k)=true)∨(x∉S++f.fPages.take k∧decide (x∈S++f.fPages.take k)=false):=by
             by_cases h:x∈S++f.fPages.take k
             ·exact .inl ⟨h,decide_eq_true h⟩
             ·exact .inr ⟨h,decide_eq_false h⟩
            rcases hm1 with ⟨c10,d10⟩|⟨c10,d10⟩
            ·rw [hpn fun hh=>by rw [hpt,partOk_snoc] at hh;exact hh.2.2.2 c10]
             rcases hord with hk|⟨j,q,hj,hq,hlt⟩
             ·have hg:decide ((0:Int)<(k:Int))=false:=decide_eq_false (by omega)
              simp -implicitDefEqProofs only [go_sem,lget_ints hx,e2,d9,hg,d10]
              repeat ((first|refine rq ?_|refine wy ?_|refine wn ?_|refine gy ?_|refine gn ?_|refine ks_in _ _ _ rfl ?_|refine ks_In (S++f.fPages.take k) x (by simp only [LEN];omega) (ls:=[1]) (by simp -implicitDefEqProofs only [go_sem];first|done|rfl) ?_|fail);simp -implicitDefEqProofs only [go_sem,lget_ints hx,e2,d9,hg,d10])
             ·have hg:decide ((0:Int)<(k:Int))=true:=decide_eq_true (by omega)
              have hjw:IntKind.i64.wrap ((k:Int) - 1)=(j:Int):=by rw [wrap_int (by omega) (by omega)];omega
              have dlt:decide (x≤q)=false:=decide_eq_false (by omega)
              simp -implicitDefEqProofs only [go_sem,lget_ints hx,e2,d9,hg,hjw,lget_ints hq,dlt,d10]
              repeat ((first|refine rq ?_|refine wy ?_|refine wn ?_|refine gy ?_|refine gn ?_|refine ks_in _ _ _ rfl ?_|refine ks_In (S++f.fPages.take k) x (by simp only [LEN];omega) (ls:=[1]) (by simp -implicitDefEqProofs only [go_sem];first|done|rfl) ?_|fail);simp -implicitDefEqProofs only [go_sem,lget_ints hx,e2,d9,hg,hjw,lget_ints hq,dlt,d10])
            ·have hok:partOk m S (f.fPages.take (k+1)):=by rw [hpt,partOk_snoc];exact ⟨k2,c9,hlast,c10⟩
             rcases hord with hk|⟨j,q,hj,hq,hlt⟩
             ·have hg:decide ((0:Int)<(k:Int))=false:=decide_eq_false (by omega)
              simp -implicitDefEqProofs only [go_sem,lget_ints hx,e2,d9,hg,d10]
              repeat ((first|refine rq ?_|refine wy ?_|refine wn ?_|refine gy ?_|refine gn ?_|refine ks_in _ _ _ rfl ?_|refine ks_In (S++f.fPages.take k) x (by simp only [LEN];omega) (ls:=[1]) (by simp -implicitDefEqProofs only [go_sem];first|done|rfl) ?_|fail);simp -implicitDefEqProofs only [go_sem,lget_ints hx,e2,d9,hg,d10])
              rw [wrap_succ (by simp only [LEN];omega)]
              refine next_data (k+1) ?_ ⟨by omega,hok⟩ (by omega)
              simp [hpt,ints];try omega
             ·have hg:decide ((0:Int)<(k:Int))=true:=decide_eq_true (by omega)
              have hjw:IntKind.i64.wrap ((k:Int) - 1)=(j:Int):=by rw [wrap_int (by omega) (by omega)];omega
              have dlt:decide (x≤q)=false:=decide_eq_false (by omega)
              simp -implicitDefEqProofs only [go_sem,lget_ints hx,e2,d9,hg,hjw,lget_ints hq,dlt,d10]
              repeat ((first|refine rq ?_|refine wy ?_|refine wn ?_|refine gy ?_|refine gn ?_|refine ks_in _ _ _ rfl ?_|refine ks_In (S++f.fPages.take k) x (by simp only [LEN];omega) (ls:=[1]) (by simp -implicitDefEqProofs only [go_sem];first|done|rfl) ?_|fail);simp -implicitDefEqProofs only [go_sem,lget_ints hx,e2,d9,hg,hjw,lget_ints hq,dlt,d10])
              rw [wrap_succ (by simp only [LEN];omega)]
              refine next_data (k+1) ?_ ⟨by omega,hok⟩ (by omega)
              simp [hpt,ints];try omega
          ·have d9:=decide_eq_false c9
           rw [hpn fun hh=>c9 (by rw [hpt,partOk_snoc] at hh;exact hh.2.1)]
           simp -implicitDefEqProofs only [go_sem,lget_ints hx,e2,d9]
           repeat ((first|refine rq ?_|refine wy ?_|refine wn ?_|refine gy ?_|refine gn ?_|refine ks_in _ _ _ rfl ?_|fail);simp -implicitDefEqProofs only [go_sem,lget_ints hx,e2,d9])
         ·have hk:k=f.fPages.length:=by omega
          subst hk
          rw [List.take_length] at k2 ⊢
          simp -implicitDefEqProofs only [go_sem]
          repeat ((first|refine rq ?_|refine wy ?_|refine wn ?_|refine gy ?_|refine gn ?_|fail);simp -implicitDefEqProofs only [go_sem])
          rw [wrap_succ (by simp only [LEN];omega)]
          exact next_data (i+1) (by simp only [hSn]) ⟨by omega,hnext c6 hlast (by omega) k2⟩ (by omega)
        ·have d7:=decide_eq_false c7
         rw [hne fun hh=>c7 (by have:=hh.2.2.1;omega)]
         rcases hord with hi|⟨j,q,hj,hq,hlt⟩
         ·have hg:decide ((0:Int)<(i:Int))=false:=decide_eq_false (by omega)
          simp -implicitDefEqProofs only [go_sem,lget_GFreeS hf,d6,hg,d7]
          repeat ((first|refine rq ?_|refine wy ?_|refine wn ?_|refine gy ?_|refine gn ?_|refine ks_in _ _ _ rfl ?_|fail);simp -implicitDefEqProofs only [go_sem,lget_GFreeS hf,d6,hg,d7])
         ·have hg:decide ((0:Int)<(i:Int))=true:=decide_eq_true (by omega)
          have hjw:IntKind.i64.wrap ((i:Int) - 1)=(j:Int):=by rw [wrap_int (by omega) (by omega)];omega
          have dlt:decide (f.fTx≤q.fTx)=false:=decide_eq_false (by omega)
          simp -implicitDefEqProofs only [go_sem,lget_GFreeS hf,d6,hg,hjw,lget_GFreeS hq,dlt,d7]
          repeat ((first|refine rq ?_|refine wy ?_|refine wn ?_|refine gy ?_|refine gn ?_|refine ks_in _ _ _ rfl ?_|fail);simp -implicitDefEqProofs only [go_sem,lget_GFreeS hf,d6,hg,hjw,lget_GFreeS hq,dlt,d7])
      ·have d6:=decide_eq_false c6
       rw [hne fun hh=>c6 hh.1]
       simp -implicitDefEqProofs only [go_sem,lget_GFreeS hf,d6]
       repeat ((first|refine rq ?_|refine wy ?_|refine wn ?_|refine gy ?_|refine gn ?_|refine ks_in _ _ _ rfl ?_|fail);simp -implicitDefEqProofs only [go_sem,lget_GFreeS hf,d6])
     ·have hi:i=m.fFrees.length:=by omega
      subst hi
      rw [List.take_length] at i2
      have hyes:decide (metaOk m)=true:=decide_eq_true ⟨hd,i2⟩
      rw [hyes]
      simp -implicitDefEqProofs only [go_sem]
      repeat ((first|refine rq ?_|refine wy ?_|refine wn ?_|refine gy ?_|refine gn ?_|fail);simp -implicitDefEqProofs only [go_sem])
    ·have d4:decide ((20:Int)<(m.fFrees.length:Int))=true:=decide_eq_true (by omega)
     have hno:decide (metaOk m)=false:=decide_eq_false fun h=>c4 h.1.2.2.2
     rw [hno]
     rcases d3 with d3|⟨d3,d5⟩
     ·simp -implicitDefEqProofs only [go_sem,GMeta.cells,d1,d2,d3,d4]
      repeat ((first|refine rq ?_|refine wy ?_|refine wn ?_|refine gy ?_|refine gn ?_|refine ks_in _ _ _ rfl ?_|fail);simp -implicitDefEqProofs only [go_sem,GMeta.cells,d1,d2,d3,d4])
     ·simp -implicitDefEqProofs only [go_sem,GMeta.cells,d1,d2,d3,e2,d5,d4]
      repeat ((first|refine rq ?_|refine wy ?_|refine wn ?_|refine gy ?_|refine gn ?_|refine ks_in _ _ _ rfl ?_|fail);simp -implicitDefEqProofs only [go_sem,GMeta.cells,d1,d2,d3,e2,d5,d4])
   ·have d3:decide (m.fRoot=0)=false:=decide_eq_false fun h=>c3 (.inl h)
    have d5:decide (2≤m.fRoot∧m.fRoot≤m.fNext - 1)=false:=decide_eq_false fun h=>c3 (.inr h)
    have hno:decide (metaOk m)=false:=decide_eq_false fun h=>c3 h.1.2.2.1
    rw [hno]
    simp -implicitDefEqProofs only [go_sem,GMeta.cells,d1,d2,d3,e2,d5]
    repeat ((first|refine rq ?_|refine wy ?_|refine wn ?_|refine gy ?_|refine gn ?_|refine ks_in _ _ _ rfl ?_|fail);simp -implicitDefEqProofs only [go_sem,GMeta.cells,d1,d2,d3,e2,d5])
  ·have d2:=decide_eq_false c2
   have hno:decide (metaOk m)=false:=decide_eq_false fun h=>c2 h.1.2.1
   rw [hno]
   simp -implicitDefEqProofs only [go_sem,GMeta.cells,d1,d2]
   repeat ((first|refine rq ?_|refine wy ?_|refine wn ?_|refine gy ?_|refine gn ?_|refine ks_in _ _ _ rfl ?_|fail);simp -implicitDefEqProofs only [go_sem,GMeta.cells,d1,d2])
 ·have d1:=decide_eq_false c1
  have hno:decide (metaOk m)=false:=decide_eq_false fun h=>c1 h.1.1
  rw [hno]
  simp -implicitDefEqProofs only [go_sem,GMeta.cells,d1]
  repeat ((first|refine rq ?_|refine wy ?_|refine wn ?_|refine gy ?_|refine gn ?_|refine ks_in _ _ _ rfl ?_|fail);simp -implicitDefEqProofs only [go_sem,GMeta.cells,d1])
theorem ks_MetaOk {h:Heap} {tb:Nat} {K:OK} {args:List V} {ls:List Nat} (m:GMeta) (hm:smallGMeta m) (hg:toDs h args=some ([.agg m.cells],ls))
  (hk:K (renV (bk tb ([])) (.d (.bool (decide (metaOk m))))) (updN tb ([]) ([]))):callVC Go.Proofs.Tryz.prog h tb 67 args K:=
 call_free hg (cs_MetaOk m hm) rfl (.inr ⟨flat_of rfl,flatHB_of rfl⟩) hk
end Go.Rx
