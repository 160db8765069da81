/-
  Part C2: lemmas on an evaluator over plain data of the model's code, plain laws on lists and numbers, or contracts of functions of the program; each lemma names its conditions.
-/
import Derived.Test.YtmeinhaecplpkaaGreatRC1
import Derived.Test.YtmeinhaecplpkaaGreatRP5

set_option linter.unusedSimpArgs false
set_option linter.unusedVariables false
namespace Go.Rx
open Go
attribute [local irreducible] Req Way WayG Sel callVC CallOK seqVC cVC loopVC nextK
@[go_sem] def hr132:Hints
 |0=> [0]|1=> [1]|2=> []|3=> [1]|4=> [1,4]|5=> [1,4,5]|6=> [1,4,5]|7=> [1,4,5]|8=> [1,4,5]|9=> [1,4,5,6]|10=> [1,4,5,6]|11=> [1,4,5,6]|12=> [4]|13=> [7,8]|14=> []|15=> [7]|_=> []
@[go_sem] def hl132:Hints
 |5=> [1,4,5]|9=> [1,4,5,6]|_=> []
attribute [go_sem] Go.Proofs.Tryz.results132
set_option maxRecDepth 100000 in
set_option maxHeartbeats 16000000 in
theorem cs_MetaText (m:GMeta) (hm:smallGMeta m):CallOK Go.Proofs.Tryz.prog 132 [.d (.agg m.cells)] [] [.dead] (metaTextV m) []:=by
 refine call_of tysZOK mixedZ Go.Proofs.Tryz.func132 (by kernel_rfl) rfl (np:=[false]) (by kernel_rfl) hr132 hl132 (by simp [Go.Proofs.Tryz.ntmps132]) ?_
 have hm':=hm
 obtain ⟨hm1,hm2⟩:=hm'
 by_cases hok:metaOk m
 ·have dok:=decide_eq_true hok
  obtain ⟨⟨⟨c1,c1'⟩,⟨c2,c2'⟩,c3,c4⟩,c5,c6,c7⟩:=id hok
  have hlen:=metaB_len hok
  obtain ⟨tx,htx⟩:=Int.eq_ofNat_of_zero_le c1
  obtain ⟨rt,hrt⟩:=Int.eq_ofNat_of_zero_le (show 0≤m.fRoot by omega)
  obtain ⟨nx,hnx⟩:=Int.eq_ofNat_of_zero_le (show 0≤m.fNext by omega)
  have v1:=varB_len9 (n:=tx) (by omega)
  have v2:=varB_len1 (n:=rt) (by omega)
  have v3:=varB_len1 (n:=nx) (by omega)
  have v4:=varB_len1 (n:=m.fFrees.length) (by omega)
  have hh:headM m=varB tx++varB rt++varB nx++varB m.fFrees.length:=by rw [headM,nB,nB,nB,htx,hrt,hnx];rfl
  simp -implicitDefEqProofs only [go_sem,GMeta.cells]
  refine ks_MetaOk m hm rfl ?_
  simp -implicitDefEqProofs only [go_sem,dok,htx,hrt,hnx]
  repeat ((first|refine rq ?_|refine wy ?_|refine wn ?_|refine gy ?_|refine gn ?_|refine ks_varText tx (by omega) rfl ?_|refine ks_varText rt (by omega) rfl ?_|refine ks_varText nx (by omega) rfl ?_|refine ks_varText m.fFrees.length (by omega) rfl ?_|fail);simp -implicitDefEqProofs only [go_sem,dok,htx,hrt,hnx])
  refine loop_data (α:=Nat) (fun i=>⟨[(1,.ref 0 0),(4,.d (.str (metaP m i))),(5,.d (.int .i64 i))],[(0,some (.box [.d (.int .i64 tx),.d (.int .i64 rt),.d (.int .i64 nx),.d (.sl (GFreeS m.fFrees))]))]⟩)
   (fun i=>i≤m.fFrees.length) (fun i=>m.fFrees.length - i) 0 (by rw [metaP_zero,hh];rfl) (Nat.zero_le _) ?_
  rintro i i1
  have hpl:=metaP_len (i:=i) hok
  simp -implicitDefEqProofs only [go_sem]
  (first|(refine way_dec (fun h5=>?_) (fun h5=>?_))|(refine way_ndec (fun h5=>?_) (fun h5=>?_))|(refine wayT_dec (fun h5=>?_) (fun h5=>?_))|(refine wayF_dec (fun h5=>?_) (fun h5=>?_))|(refine wayT_ndec (fun h5=>?_) (fun h5=>?_))|(refine wayF_ndec (fun h5=>?_) (fun h5=>?_))|(refine way_not (fun h5=>?_) (fun h5=>?_))|(refine way (fun h5=>?_) (fun h5=>?_))|(refine wayT (fun h5=>?_) (fun h5=>?_))|(refine wayF (fun h5=>?_) (fun h5=>?_)))
  ·obtain ⟨f,hf⟩:=some_at h5
   obtain ⟨f1,f2,f3,f4⟩:=c5 f (List.mem_of_getElem? hf)
   obtain ⟨ft,hft⟩:=Int.eq_ofNat_of_zero_le (show 0≤f.fTx by omega)
   have w1:=varB_len9 (n:=ft) (by omega)
   have w2:=varB_len1 (n:=f.fPages.length) (by omega)
   have hfz:freeP f 0=varB ft++varB f.fPages.length:=by rw [freeP_zero,nB,hft];rfl
   have hpl1:=metaP_len (i:=i+1) hok
   rw [metaP_succ hf,List.length_append] at hpl1
   simp -implicitDefEqProofs only [go_sem,lget_GFreeS hf,hft]
   repeat ((first|refine rq ?_|refine wy ?_|refine wn ?_|refine gy ?_|refine gn ?_|refine ks_varText ft (by omega) rfl ?_|refine ks_varText f.fPages.length (by omega) rfl ?_|fail);simp -implicitDefEqProofs only [go_sem,lget_GFreeS hf,hft])
   refine loop_data (α:=Nat) (fun k=>⟨[(1,.ref 0 0),(4,.d (.str (metaP m i++freeP f k))),(5,.d (.int .i64 i)),(6,.d (.int .i64 k))],[(0,some (.box [.d (.int .i64 tx),.d (.int .i64 rt),.d (.int .i64 nx),.d (.sl (GFreeS m.fFrees))]))]⟩)
    (fun k=>k≤f.fPages.length) (fun k=>f.fPages.length - k) 0 (by rw [hfz];simp [List.append_assoc]) (Nat.zero_le _) ?_
   rintro k k1
   have hfl:= @freeP_len f k
   simp -implicitDefEqProofs only [go_sem,lget_GFreeS hf]
   repeat ((first|refine rq ?_|fail);simp -implicitDefEqProofs only [go_sem,lget_GFreeS hf])
   (first|(refine way_dec (fun h8=>?_) (fun h8=>?_))|(refine way_ndec (fun h8=>?_) (fun h8=>?_))|(refine wayT_dec (fun h8=>?_) (fun h8=>?_))|(refine wayF_dec (fun h8=>?_) (fun h8=>?_))|(refine wayT_ndec (fun h8=>?_) (fun h8=>?_))|(refine wayF_ndec (fun h8=>?_) (fun h8=>?_))|(refine way_not (fun h8=>?_) (fun h8=>?_))|(refine way (fun h8=>?_) (fun h8=>?_))|(refine wayT (fun h8=>?_) (fun h8=>?_))|(refine wayF (fun h8=>?_) (fun h8=>?_)))
   ·obtain ⟨x,hx⟩:=some_at h8
    have hxm:=f4 x (List.mem_of_getElem? hx)
    obtain ⟨q,rfl⟩:=Int.eq_ofNat_of_zero_le (show 0≤x by omega)
    have w3:=varB_len1 (n:=q) (by omega)
    have hs:metaP m i++freeP f (k+1)=metaP m i++freeP f k++varB q:=by rw [freeP_succ hx,nB,List.append_assoc];rfl
    simp -implicitDefEqProofs only [go_sem,lget_GFreeS hf,lget_ints hx]
    repeat ((first|refine rq ?_|refine wy ?_|refine wn ?_|refine gy ?_|refine gn ?_|refine ks_varText q (by omega) rfl ?_|fail);simp -implicitDefEqProofs only [go_sem,lget_GFreeS hf,lget_ints hx])
    rw [wrap_succ (by simp only [LEN];omega)]
    refine next_data (k+1) ?_ (by omega) (by omega)
    rw [hs]
   ·have hk:k=f.fPages.length:=by omega
    subst hk
    simp -implicitDefEqProofs only [go_sem,lget_GFreeS hf]
    repeat ((first|refine rq ?_|refine wy ?_|refine wn ?_|refine gy ?_|refine gn ?_|fail);simp -implicitDefEqProofs only [go_sem,lget_GFreeS hf])
    rw [wrap_succ (by simp only [LEN];omega)]
    refine next_data (i+1) ?_ (by omega) (by omega)
    rw [metaP_succ hf,freeP_all]
  ·have hi:i=m.fFrees.length:=by omega
   subst hi
   have hT:metaT m=sealB (metaB m):=rfl
   simp -implicitDefEqProofs only [go_sem,metaP_all]
   refine ks_Sealed (metaB m) (by omega) rfl ?_
   simp -implicitDefEqProofs only [go_sem]
   by_cases hl:(240:Int)<(sealB (metaB m)).length
   ·have dl:=decide_eq_true hl
    have hno:metaText m=none:=by rw [metaText,if_neg fun h=>by have:=h.2;rw [hT] at this;omega]
    rw [metaTextV,hno]
    simp -implicitDefEqProofs only [go_sem,dl]
    repeat ((first|refine rq ?_|refine wy ?_|refine wn ?_|refine gy ?_|refine gn ?_|fail);simp -implicitDefEqProofs only [go_sem,dl])
    try rfl
   ·have dl:=decide_eq_false hl
    have hyes:metaText m=some (sealB (metaB m)):=by rw [metaText,if_pos ⟨hok,by rw [hT];omega⟩,hT]
    rw [metaTextV,hyes]
    simp -implicitDefEqProofs only [go_sem,dl]
    repeat ((first|refine rq ?_|refine wy ?_|refine wn ?_|refine gy ?_|refine gn ?_|fail);simp -implicitDefEqProofs only [go_sem,dl])
    try rfl
 ·have dok:=decide_eq_false hok
  have hno:metaText m=none:=by rw [metaText,if_neg fun h=>hok h.1]
  rw [metaTextV,hno]
  simp -implicitDefEqProofs only [go_sem,GMeta.cells]
  refine ks_MetaOk m hm rfl ?_
  simp -implicitDefEqProofs only [go_sem,dok]
  repeat ((first|refine rq ?_|refine wy ?_|refine wn ?_|refine gy ?_|refine gn ?_|fail);simp -implicitDefEqProofs only [go_sem,dok])
  try rfl
theorem ks_MetaText {h:Heap} {tb:Nat} {K:OK} {args:List V} {ls:List Nat} (m:GMeta) (hm:smallGMeta m) (hg:toDs h args=some ([.agg m.cells],ls))
  (hk:K (renV (bk tb ([])) (metaTextV m)) (updN tb ([]) ([]))):callVC Go.Proofs.Tryz.prog h tb 132 args K:=
 call_free hg (cs_MetaText m hm) rfl (.inr ⟨flat_of rfl,flatHB_of rfl⟩) hk
end Go.Rx
namespace Go.Rx
open Go
attribute [local irreducible] Req Way WayG Sel callVC CallOK seqVC cVC loopVC nextK
theorem pagesL_go {s:List UInt8} {n j:Nat} {ps:List Int} {r:Nat×Bool} (hj:j<n) (hb:r.2=false):pagesL s (n - j) ps r=pagesL s (n - (j+1)) (ps++[((rdV s 1000000000 r).1:Int)]) (rdV s 1000000000 r).2:=by
 obtain ⟨k,hk⟩:∃k,n - j=k+1:=⟨n - j - 1,by omega⟩
 have:n - (j+1)=k:=by omega
 rw [hk,this,pagesL,if_neg (by rw [hb];simp)]
theorem pagesL_stop {s:List UInt8} {n:Nat} {ps:List Int} {r:Nat×Bool} (h:n=0∨r.2=true):pagesL s n ps r=(ps,r):=by
 cases n with
 |zero=>rfl
 |succ n=>rw [pagesL,if_pos (h.resolve_left (by simp))]
theorem freesL_go {s:List UInt8} {n j:Nat} {ps:List GFree} {r:Nat×Bool} (hj:j<n) (hb:r.2=false):freesL s (n - j) ps r=freesL s (n - (j+1)) (ps++[(freeL s r).1]) (freeL s r).2:=by
 obtain ⟨k,hk⟩:∃k,n - j=k+1:=⟨n - j - 1,by omega⟩
 have:n - (j+1)=k:=by omega
 rw [hk,this,freesL,if_neg (by rw [hb];simp)]
theorem freesL_stop {s:List UInt8} {n:Nat} {ps:List GFree} {r:Nat×Bool} (h:n=0∨r.2=true):freesL s n ps r=(ps,r):=by
 cases n with
 |zero=>rfl
 |succ n=>rw [freesL,if_pos (h.resolve_left (by simp))]
@[go_sem] def hr134:Hints
 |0=> [0]|1=> [0,2]|2=> [0,2,4,5]|3=> [0,2,6]|4=> [0,2,6,7]|5=> [0,2,6,7]|6=> [0,2,6,7]|7=> [0,2,6,7,8]|8=> [0,2,6,7,8,9]|9=> [0,2,6,7,8,9]|10=> [0,2,6,7,8,9]|11=> [0,2,6,7,8,9,10]|12=> [0,2,6,7,8,9,10,11]|13=> [0,2,6,7,8,9,10,11,12]|14=> [0,2,6,7,8,9,10,11,12]|15=> [0,2,6,7,8,9,10,11,12]|16=> [0,2,6,7,8,9,10]|17=> [0,2,6,7]|18=> [0,2,6,7,13,14]|19=> [2]|20=> [2,7]|_=> []
@[go_sem] def hl134:Hints
 |8=> [0,2,6,7,8,9]|13=> [0,2,6,7,8,9,10,11,12]|_=> []
attribute [go_sem] Go.Proofs.Tryz.results134
set_option maxRecDepth 100000 in
set_option maxHeartbeats 16000000 in
theorem cs_ReadMeta (t:List UInt8) (ht:t.length≤4611686018427387904):CallOK Go.Proofs.Tryz.prog 134 [.d (.str t)] [] [.dead] (metaV (readMeta t)) []:=by
 refine call_fr tysZOK mixedZ Go.Proofs.Tryz.func134 (by kernel_rfl) rfl (by kernel_rfl) hr134 hl134 (by simp [Go.Proofs.Tryz.ntmps134]) rfl ?_
 simp -implicitDefEqProofs only [go_sem]
 refine ks_Unsealed t ht rfl ⟨flat_unV,flatH_nil⟩ ?_
 cases hu:unsealB t with
 |none=>
  have hno:readMeta t=none:=by rw [readMeta,hu]
  rw [hno]
  have hz:rdV [] 1000000000 (0,true)=(0,(0,true)):=rfl
  have hmt:metaText ⟨0,0,0,[]⟩=none:=by rw [metaText,if_neg];intro h;exact absurd h.1.1.2.1.1 (by decide)
  simp only [unV,metaV]
  simp -implicitDefEqProofs only [go_sem]
  refine ks_num [] (0,true) (by simp) rfl rfl rfl rfl ?_
  rw [hz]
  simp -implicitDefEqProofs only [go_sem]
  refine ks_num [] (0,true) (by simp) rfl rfl rfl rfl ?_
  rw [hz]
  simp -implicitDefEqProofs only [go_sem]
  refine ks_num [] (0,true) (by simp) rfl rfl rfl rfl ?_
  rw [hz]
  simp -implicitDefEqProofs only [go_sem]
  refine ks_num [] (0,true) (by simp) rfl rfl rfl rfl ?_
  rw [hz]
  simp -implicitDefEqProofs only [go_sem]
  refine loop_data (α:=Unit) (fun _=>⟨[(0,.d (.str t)),(2,.ref 0 0),(6,.ref 2 0),(7,.ref 3 0),(8,.d (.int .i64 ((0:Nat):Int))),(9,.d (.int .i64 0))],[(0,some (.box [.d (.int .i64 0),.d (.int .i64 0),.d (.int .i64 0),.own 1 0 0])),(1,some (.arr 2 [])),(2,some (.box [.d (.str []),.d (.int .i64 ((0:Nat):Int)),.d (.bool true)])),(3,some (.box [.d (.int .i64 ((0:Nat):Int)),.d (.int .i64 ((0:Nat):Int)),.d (.int .i64 ((0:Nat):Int)),.own 4 0 0])),(4,some (.arr 2 []))]⟩)
   (fun _=>True) (fun _=>0) () rfl trivial ?_
  rintro _ _
  have d0:decide ((0:Int)<((0:Nat):Int))=false:=rfl
  simp -implicitDefEqProofs only [go_sem,d0]
  repeat ((first|refine rq ?_|refine wy ?_|refine wn ?_|refine gy ?_|refine gn ?_|refine ks_MetaText ⟨0,0,0,[]⟩ ⟨by simp,by simp⟩ (ls:=[4]) (by simp -implicitDefEqProofs only [go_sem,GMeta.cells,GFreeS];first|done|rfl) ?_|fail);simp -implicitDefEqProofs only [go_sem,d0])
  rw [metaTextV,hmt]
  simp -implicitDefEqProofs only [go_sem]
  repeat ((first|refine rq ?_|refine wy ?_|refine wn ?_|refine gy ?_|refine gn ?_|fail);simp -implicitDefEqProofs only [go_sem])
  try rfl
 |some s=>
  have hs:s.length≤20000:=(unseal_iff.1 hu).1
  have hrm:readMeta t=if (parseM s false).2=false∧metaText (parseM s false).1=some t then some (parseM s false).1 else none:=by rw [readMeta,hu]
  unfold parseM at hrm
  simp only [unV]
  simp only at hrm
  simp -implicitDefEqProofs only [go_sem]
  refine ks_num s (0,false) (by omega) rfl rfl rfl rfl ?_
  generalize h1:rdV s 1000000000 (0,false)=x1 at hrm ⊢
  obtain ⟨A,r1,b1⟩:=x1
  simp only at hrm
  simp -implicitDefEqProofs only [go_sem]
  refine ks_num s (r1,b1) (by omega) rfl rfl rfl rfl ?_
  generalize h2:rdV s 1000000000 (r1,b1)=x2 at hrm ⊢
  obtain ⟨B,r2,b2⟩:=x2
  simp only at hrm
  simp -implicitDefEqProofs only [go_sem]
  refine ks_num s (r2,b2) (by omega) rfl rfl rfl rfl ?_
  generalize h3:rdV s 1000000000 (r2,b2)=x3 at hrm ⊢
  obtain ⟨C,r3,b3⟩:=x3
  simp only at hrm
  simp -implicitDefEqProofs only [go_sem]
  refine ks_num s (r3,b3) (by omega) rfl rfl rfl rfl ?_
  generalize h4:rdV s 1000000000 (r3,b3)=x4 at hrm ⊢
  obtain ⟨n,r4,b4⟩:=x4
  simp only at hrm
  simp -implicitDefEqProofs only [go_sem]
  refine loop_data (α:=Nat×List GFree×(Nat×Bool)) (fun x=>⟨[(0,.d (.str t)),(2,.ref 0 0),(6,.ref 2 0),(7,.ref 3 0),(8,.d (.int .i64 n)),(9,.d (.int .i64 (x.1:Nat)))],[(0,some (.box [.d (.int .i64 0),.d (.int .i64 0),.d (.int .i64 0),.own 1 0 0])),(1,some (.arr 2 [])),(2,some (.box [.d (.str s),.d (.int .i64 x.2.2.1),.d (.bool x.2.2.2)])),(3,some (.box [.d (.int .i64 A),.d (.int .i64 B),.d (.int .i64 C),.own 4 0 x.2.1.length])),(4,some (.arr 2 (GFreeS x.2.1)))]⟩)
   (fun x=>x.1≤min n 30∧x.2.1.length≤x.1∧(∀f∈x.2.1,f.fPages.length≤50)∧freesL s (min n 30 - x.1) x.2.1 x.2.2=freesL s (min n 30) [] (r4,b4)) (fun x=>30 - x.1) (0,[],(r4,b4)) rfl ⟨Nat.zero_le _,by simp,by simp,rfl⟩ ?_
  rintro ⟨i,out,ra,rb⟩ ⟨i1,i2,i3,i4⟩
  simp only at i1 i2 i3 i4
  by_cases c1:(i:Int)<n
  ·have d1:=decide_eq_true c1
   by_cases c2:(i:Int)<30
   ·have d2:=decide_eq_true c2
    cases rb with
    |true=>
     simp -implicitDefEqProofs only [go_sem,d1,d2]
     repeat ((first|refine rq ?_|refine wy ?_|refine wn ?_|refine gy ?_|refine gn ?_|fail);simp -implicitDefEqProofs only [go_sem,d1,d2])
     have hfin:freesL s (min n 30) [] (r4,b4)=(out,(ra,true)):=by rw [←i4];exact freesL_stop (.inr rfl)
     rw [hfin] at hrm
     simp only at hrm
     rw [if_neg (by simp)] at hrm
     rw [hrm]
     refine ks_MetaText ⟨A,B,C,out⟩ ⟨by simp only;omega,fun f hf=>by have:=i3 f hf;show f.fPages.length≤1048576;omega⟩ (ls:=[4]) (by simp -implicitDefEqProofs only [go_sem,GMeta.cells];first|done|rfl) ?_
     rw [metaTextV]
     generalize metaText ⟨A,B,C,out⟩=o
     simp only [metaV,Option.isSome_none,Option.getD_none,Option.isSome_some,Option.getD_some]
     cases o
     ·simp -implicitDefEqProofs only [go_sem]
      repeat ((first|refine rq ?_|refine wy ?_|refine wn ?_|refine gy ?_|refine gn ?_|fail);simp -implicitDefEqProofs only [go_sem])
      try rfl
     ·simp -implicitDefEqProofs only [go_sem]
      repeat ((first|refine rq ?_|refine wy ?_|refine wn ?_|refine gy ?_|refine gn ?_|fail);simp -implicitDefEqProofs only [go_sem])
      try rfl
    |false=>
     have hgo:=freesL_go (s:=s) (n:=min n 30) (j:=i) (ps:=out) (r:=(ra,false)) (by omega) rfl
     simp -implicitDefEqProofs only [go_sem,d1,d2]
     repeat ((first|refine rq ?_|refine wy ?_|refine wn ?_|refine gy ?_|refine gn ?_|fail);simp -implicitDefEqProofs only [go_sem,d1,d2])
     refine ks_num s (ra,false) (by omega) rfl rfl rfl rfl ?_
     generalize hT0:rdV s 1000000000 (ra,false)=x5 at hgo ⊢
     obtain ⟨T0,q1,qb1⟩:=x5
     simp -implicitDefEqProofs only [go_sem]
     refine ks_num s (q1,qb1) (by omega) rfl rfl rfl rfl ?_
     generalize hK0:rdV s 1000000000 (q1,qb1)=x6
     obtain ⟨K0,q0,qb⟩:=x6
     simp -implicitDefEqProofs only [go_sem]
     refine loop_data (α:=Nat×List Int×(Nat×Bool)) (fun x=>⟨[(0,.d (.str t)),(2,.ref 0 0),(6,.ref 2 0),(7,.ref 3 0),(8,.d (.int .i64 n)),(9,.d (.int .i64 i)),(10,.ref 5 0),(11,.d (.int .i64 K0)),(12,.d (.int .i64 (x.1:Nat)))],[(0,some (.box [.d (.int .i64 0),.d (.int .i64 0),.d (.int .i64 0),.own 1 0 0])),(1,some (.arr 2 [])),(2,some (.box [.d (.str s),.d (.int .i64 x.2.2.1),.d (.bool x.2.2.2)])),(3,some (.box [.d (.int .i64 A),.d (.int .i64 B),.d (.int .i64 C),.own 4 0 out.length])),(4,some (.arr 2 (GFreeS out))),(5,some (.box [.d (.int .i64 T0),.own 6 0 x.2.1.length])),(6,some (.arr 1 (ints x.2.1)))]⟩)
      (fun x=>x.1≤min K0 50∧x.2.1.length≤x.1∧pagesL s (min K0 50 - x.1) x.2.1 x.2.2=pagesL s (min K0 50) [] (q0,qb)) (fun x=>50 - x.1) (0,[],(q0,qb)) rfl ⟨Nat.zero_le _,by simp,rfl⟩ ?_
     rintro ⟨j,ps,qa,qc⟩ ⟨j1,j2,j3⟩
     simp only at j1 j2 j3
     by_cases c3:(j:Int)<K0
     ·have d3:=decide_eq_true c3
      by_cases c4:(j:Int)<50
      ·have d4:=decide_eq_true c4
       cases qc with
       |true=>
        simp -implicitDefEqProofs only [go_sem,d3,d4]
        repeat ((first|refine rq ?_|refine wy ?_|refine wn ?_|refine gy ?_|refine gn ?_|fail);simp -implicitDefEqProofs only [go_sem,d3,d4])
        have hfin:pagesL s (min K0 50) [] (q0,qb)=(ps,(qa,true)):=by rw [←j3];exact pagesL_stop (.inr rfl)
        have hfl:freeL s (ra,false)=(⟨(T0:Int),ps⟩,(qa,true)):=by unfold freeL;rw [hT0,hK0,hfin]
        rw [hfl] at hgo
        simp -implicitDefEqProofs only [go_sem,GFree.cells,ints_all]
        repeat ((first|refine rq ?_|refine wy ?_|refine wn ?_|refine gy ?_|refine gn ?_|fail);simp -implicitDefEqProofs only [go_sem,GFree.cells,ints_all])
        rw [wrap_succ (by simp only [LEN];omega)]
        refine next_data (i+1,out++[⟨(T0:Int),ps⟩],(qa,true)) ?_ ⟨by simp only;omega,by simp;omega,fun f hf=>?_,by simp only;rw [←hgo];exact i4⟩ (by simp only;omega)
        ·simp [GFreeS,GFree.cells]
        ·rcases List.mem_append.1 hf with hf|hf
         ·exact i3 f hf
         ·simp only [List.mem_singleton] at hf;subst hf;simp only;omega
       |false=>
        have hstep:=pagesL_go (s:=s) (n:=min K0 50) (j:=j) (ps:=ps) (r:=(qa,false)) (by omega) rfl
        simp -implicitDefEqProofs only [go_sem,d3,d4]
        repeat ((first|refine rq ?_|refine wy ?_|refine wn ?_|refine gy ?_|refine gn ?_|refine ks_num s (qa,false) (by omega) rfl rfl rfl rfl ?_|fail);simp -implicitDefEqProofs only [go_sem,d3,d4])
        rw [wrap_succ (by simp only [LEN];omega)]
        refine next_data (j+1,ps++[((rdV s 1000000000 (qa,false)).1:Int)],(rdV s 1000000000 (qa,false)).2) ?_ ⟨by simp only;omega,by simp;omega,by simp only;rw [←hstep];exact j3⟩ (by simp only;omega)
        simp [ints]
      ·have d4:=decide_eq_false c4
       simp -implicitDefEqProofs only [go_sem,d3,d4]
       repeat ((first|refine rq ?_|refine wy ?_|refine wn ?_|refine gy ?_|refine gn ?_|fail);simp -implicitDefEqProofs only [go_sem,d3,d4])
       have hfin:pagesL s (min K0 50) [] (q0,qb)=(ps,(qa,qc)):=by rw [←j3];exact pagesL_stop (.inl (by omega))
       have hfl:freeL s (ra,false)=(⟨(T0:Int),ps⟩,(qa,qc)):=by unfold freeL;rw [hT0,hK0,hfin]
       rw [hfl] at hgo
       simp -implicitDefEqProofs only [go_sem,GFree.cells,ints_all]
       repeat ((first|refine rq ?_|refine wy ?_|refine wn ?_|refine gy ?_|refine gn ?_|fail);simp -implicitDefEqProofs only [go_sem,GFree.cells,ints_all])
       rw [wrap_succ (by simp only [LEN];omega)]
       refine next_data (i+1,out++[⟨(T0:Int),ps⟩],(qa,qc)) ?_ ⟨by simp only;omega,by simp;omega,fun f hf=>?_,by simp only;rw [←hgo];exact i4⟩ (by simp only;omega)
       ·simp [GFreeS,GFree.cells]
       ·rcases List.mem_append.1 hf with hf|hf
        ·exact i3 f hf
        ·simp only [List.mem_singleton] at hf;subst hf;simp only;omega
     ·have d3:=decide_eq_false c3
      simp -implicitDefEqProofs only [go_sem,d3]
      repeat ((first|refine rq ?_|refine wy ?_|refine wn ?_|refine gy ?_|refine gn ?_|fail);simp -implicitDefEqProofs only [go_sem,d3])
      have hfin:pagesL s (min K0 50) [] (q0,qb)=(ps,(qa,qc)):=by rw [←j3];exact pagesL_stop (.inl (by omega))
      have hfl:freeL s (ra,false)=(⟨(T0:Int),ps⟩,(qa,qc)):=by unfold freeL;rw [hT0,hK0,hfin]
      rw [hfl] at hgo
      simp -implicitDefEqProofs only [go_sem,GFree.cells,ints_all]
      repeat ((first|refine rq ?_|refine wy ?_|refine wn ?_|refine gy ?_|refine gn ?_|fail);simp -implicitDefEqProofs only [go_sem,GFree.cells,ints_all])
      rw [wrap_succ (by simp only [LEN];omega)]
      refine next_data (i+1,out++[⟨(T0:Int),ps⟩],(qa,qc)) ?_ ⟨by simp only;omega,by simp;omega,fun f hf=>?_,by simp only;rw [←hgo];exact i4⟩ (by simp only;omega)
      ·simp [GFreeS,GFree.cells]
      ·rcases List.mem_append.1 hf with hf|hf
       ·exact i3 f hf
       ·simp only [List.mem_singleton] at hf;subst hf;simp only;omega
   ·have d2:=decide_eq_false c2
    simp -implicitDefEqProofs only [go_sem,d1,d2]
    repeat ((first|refine rq ?_|refine wy ?_|refine wn ?_|refine gy ?_|refine gn ?_|fail);simp -implicitDefEqProofs only [go_sem,d1,d2])
    have hfin:freesL s (min n 30) [] (r4,b4)=(out,(ra,rb)):=by rw [←i4];exact freesL_stop (by simp only;omega)
    rw [hfin] at hrm
    simp only at hrm
    refine ks_MetaText ⟨A,B,C,out⟩ ⟨by simp only;omega,fun f hf=>by have:=i3 f hf;show f.fPages.length≤1048576;omega⟩ (ls:=[4]) (by simp -implicitDefEqProofs only [go_sem,GMeta.cells];first|done|rfl) ?_
    rw [metaTextV]
    generalize hmt:metaText ⟨A,B,C,out⟩=o at hrm ⊢
    cases o with
    |none=>
     rw [if_neg (by simp)] at hrm
     rw [hrm]
     simp only [metaV,Option.isSome_none,Option.getD_none,Option.isSome_some,Option.getD_some]
     cases rb
     ·simp -implicitDefEqProofs only [go_sem]
      repeat ((first|refine rq ?_|refine wy ?_|refine wn ?_|refine gy ?_|refine gn ?_|fail);simp -implicitDefEqProofs only [go_sem])
      try rfl
     ·simp -implicitDefEqProofs only [go_sem]
      repeat ((first|refine rq ?_|refine wy ?_|refine wn ?_|refine gy ?_|refine gn ?_|fail);simp -implicitDefEqProofs only [go_sem])
      try rfl
    |some u=>
     cases rb with
     |true=>
      rw [if_neg (by simp)] at hrm
      rw [hrm]
      simp only [metaV,Option.isSome_none,Option.getD_none,Option.isSome_some,Option.getD_some]
      simp -implicitDefEqProofs only [go_sem]
      repeat ((first|refine rq ?_|refine wy ?_|refine wn ?_|refine gy ?_|refine gn ?_|fail);simp -implicitDefEqProofs only [go_sem])
      try rfl
     |false=>
      by_cases hut:u=t
      ·have du:=decide_eq_true hut
       rw [if_pos ⟨rfl,by rw [hut]⟩] at hrm
       rw [hrm]
       simp only [metaV,Option.isSome_none,Option.getD_none,Option.isSome_some,Option.getD_some]
       simp -implicitDefEqProofs only [go_sem,du,GMeta.cells]
       repeat ((first|refine rq ?_|refine wy ?_|refine wn ?_|refine gy ?_|refine gn ?_|fail);simp -implicitDefEqProofs only [go_sem,du,GMeta.cells])
       try rfl
      ·have du:=decide_eq_false hut
       rw [if_neg fun h=>hut (Option.some.inj h.2)] at hrm
       rw [hrm]
       simp only [metaV,Option.isSome_none,Option.getD_none,Option.isSome_some,Option.getD_some]
       simp -implicitDefEqProofs only [go_sem,du]
       repeat ((first|refine rq ?_|refine wy ?_|refine wn ?_|refine gy ?_|refine gn ?_|fail);simp -implicitDefEqProofs only [go_sem,du])
       try rfl
  ·have d1:=decide_eq_false c1
   simp -implicitDefEqProofs only [go_sem,d1]
   repeat ((first|refine rq ?_|refine wy ?_|refine wn ?_|refine gy ?_|refine gn ?_|fail);simp -implicitDefEqProofs only [go_sem,d1])
   have hfin:freesL s (min n 30) [] (r4,b4)=(out,(ra,rb)):=by rw [←i4];exact freesL_stop (by simp only;omega)
   rw [hfin] at hrm
   simp only at hrm
   refine ks_MetaText ⟨A,B,C,out⟩ ⟨by simp only;omega,fun f hf=>by have:=i3 f hf;show f.fPages.length≤1048576;omega⟩ (ls:=[4]) (by simp -implicitDefEqProofs only [go_sem,GMeta.cells];first|done|rfl) ?_
   rw [metaTextV]
   generalize hmt:metaText ⟨A,B,C,out⟩=o at hrm ⊢
   cases o with
   |none=>
    rw [if_neg (by simp)] at hrm
    rw [hrm]
    simp only [metaV,Option.isSome_none,Option.getD_none,Option.isSome_some,Option.getD_some]
    cases rb
    ·simp -implicitDefEqProofs only [go_sem]
     repeat ((first|refine rq ?_|refine wy ?_|refine wn ?_|refine gy ?_|refine gn ?_|fail);simp -implicitDefEqProofs only [go_sem])
     try rfl
    ·simp -implicitDefEqProofs only [go_sem]
     repeat ((first|refine rq ?_|refine wy ?_|refine wn ?_|refine gy ?_|refine gn ?_|fail);simp -implicitDefEqProofs only [go_sem])
     try rfl
   |some u=>
    cases rb with
    |true=>
     rw [if_neg (by simp)] at hrm
     rw [hrm]
     simp only [metaV,Option.isSome_none,Option.getD_none,Option.isSome_some,Option.getD_some]
     simp -implicitDefEqProofs only [go_sem]
     repeat ((first|refine rq ?_|refine wy ?_|refine wn ?_|refine gy ?_|refine gn ?_|fail);simp -implicitDefEqProofs only [go_sem])
     try rfl
    |false=>
     by_cases hut:u=t
     ·have du:=decide_eq_true hut
      rw [if_pos ⟨rfl,by rw [hut]⟩] at hrm
      rw [hrm]
      simp only [metaV,Option.isSome_none,Option.getD_none,Option.isSome_some,Option.getD_some]
      simp -implicitDefEqProofs only [go_sem,du,GMeta.cells]
      repeat ((first|refine rq ?_|refine wy ?_|refine wn ?_|refine gy ?_|refine gn ?_|fail);simp -implicitDefEqProofs only [go_sem,du,GMeta.cells])
      try rfl
     ·have du:=decide_eq_false hut
      rw [if_neg fun h=>hut (Option.some.inj h.2)] at hrm
      rw [hrm]
      simp only [metaV,Option.isSome_none,Option.getD_none,Option.isSome_some,Option.getD_some]
      simp -implicitDefEqProofs only [go_sem,du]
      repeat ((first|refine rq ?_|refine wy ?_|refine wn ?_|refine gy ?_|refine gn ?_|fail);simp -implicitDefEqProofs only [go_sem,du])
      try rfl
theorem ks_ReadMeta {h:Heap} {tb:Nat} {K:OK} {args:List V} (t:List UInt8) (ht:t.length≤4611686018427387904) (hg:toDs h args=some ([.str t],[]))
  (hk:K (renV (bk tb ([])) (metaV (readMeta t))) (updN tb ([]) ([]))):callVC Go.Proofs.Tryz.prog h tb 134 args K:=
 call_free hg (cs_ReadMeta t ht) rfl (.inl rfl) hk
end Go.Rx
