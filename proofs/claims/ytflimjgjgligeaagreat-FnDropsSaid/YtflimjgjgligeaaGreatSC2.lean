/-
  Part C2: lemmas on an evaluator over plain data of the model's code, plain laws on lists and numbers, or contracts of functions of the program; each lemma names its conditions.
-/
import Derived.Test.YtflimjgjgligeaaGreatSC1
import Derived.Test.YtflimjgjgligeaaGreatSP5

set_option linter.unusedSimpArgs false
set_option linter.unusedVariables false
set_option maxRecDepth 100000
set_option maxHeartbeats 16000000
set_option linter.defProp false
namespace Go.Rx
open Go
attribute [local irreducible] Req Way WayG Sel Z2 ZQ Zaz cVC Zai ZaO
@[go_sem] def hr133:ZW:=hh [[0],[1],[],[1],[1,4],[1,4,5],[1,4,5],[1,4,5],[1,4,5],[1,4,5,6],[1,4,5,6],[1,4,5,6],[4],[7,8],[],[7]]
@[go_sem] def hl133:ZW:=hh [[],[],[],[],[],[1,4,5],[],[],[],[1,4,5,6]]
attribute [go_sem] Go.Proofs.Tryz.results133
theorem ZpO (m:ZX) (hm:ZaD m):ZQ Go.Proofs.Tryz.prog 133 [.d (.agg m.cells)] [] [.dead] (Zbo m) []:=by
 refine cof Go.Proofs.Tryz.func133 hr133 hl133 [false] ?_;have hm':=hm;obtain ⟨hm1,hm2⟩:=hm';by_cases hok:Za8 m
 ·have dok:=decide_eq_true hok;obtain ⟨⟨⟨c1,c1'⟩,⟨c2,c2'⟩,c3,c4⟩,c5,c6,c7⟩:=id hok;have hlen:=ZjH hok;obtain ⟨tx,htx⟩:=Int.eq_ofNat_of_zero_le c1;obtain ⟨rt,hrt⟩:=Int.eq_ofNat_of_zero_le (show 0≤m.Zy by omega);obtain ⟨nx,hnx⟩:=Int.eq_ofNat_of_zero_le (show 0≤m.Zs by omega);have v1:=ZdR (n:=tx) (by omega);have v2:=Zdd (n:=rt) (by omega);have v3:=Zdd (n:=nx) (by omega);have v4:=Zdd (n:=m.Ze.length) (by omega);have hh:Zvb m=varB tx++varB rt++varB nx++varB m.Ze.length:=by rw [Zvb,nB,nB,nB,htx,hrt,hnx];rfl
  simp -implicitDefEqProofs only [go_sem,ZX.cells];refine Znw m hm rfl ?_;simp -implicitDefEqProofs only [go_sem,dok,htx,hrt,hnx];repeat ((first|refine rq ?_|refine wl ?_|refine gl ?_|refine Zbt tx (by omega) rfl ?_|refine Zbt rt (by omega) rfl ?_|refine Zbt nx (by omega) rfl ?_|refine Zbt m.Ze.length (by omega) rfl ?_|fail);simp -implicitDefEqProofs only [go_sem,dok,htx,hrt,hnx])
  refine ZY (α:=Nat) (fun i=>⟨[(1,.ref 0 0),(4,.d (.str (Zhe m i))),(5,.d (.int .i64 i))],[(0,some (.box [.d (.int .i64 tx),.d (.int .i64 rt),.d (.int .i64 nx),.d (.sl (Z9 m.Ze))]))]⟩)
   (fun i=>i≤m.Ze.length) (fun i=>m.Ze.length - i) 0 (by rw [ZrZ,hh];rfl) (Nat.zero_le _) ?_
  rintro i i1;have hpl:=Znk (i:=i) hok;simp -implicitDefEqProofs only [go_sem];refine fork (fun h5=>?_) (fun h5=>?_)
  ·obtain ⟨f,hf⟩:=Z3 h5;obtain ⟨f1,f2,f3,f4⟩:=c5 f (List.mem_of_getElem? hf);obtain ⟨ft,hft⟩:=Int.eq_ofNat_of_zero_le (show 0≤f.ZF by omega);have w1:=ZdR (n:=ft) (by omega);have w2:=Zdd (n:=f.Zv.length) (by omega);have hfz:Zhp f 0=varB ft++varB f.Zv.length:=by rw [Zsm,nB,hft];rfl
   have hpl1:=Znk (i:=i+1) hok;rw [Zla hf,List.length_append] at hpl1;simp -implicitDefEqProofs only [go_sem,Z4 hf,hft];repeat ((first|refine rq ?_|refine wl ?_|refine gl ?_|refine Zbt ft (by omega) rfl ?_|refine Zbt f.Zv.length (by omega) rfl ?_|fail);simp -implicitDefEqProofs only [go_sem,Z4 hf,hft])
   refine ZY (α:=Nat) (fun k=>⟨[(1,.ref 0 0),(4,.d (.str (Zhe m i++Zhp f k))),(5,.d (.int .i64 i)),(6,.d (.int .i64 k))],[(0,some (.box [.d (.int .i64 tx),.d (.int .i64 rt),.d (.int .i64 nx),.d (.sl (Z9 m.Ze))]))]⟩)
    (fun k=>k≤f.Zv.length) (fun k=>f.Zv.length - k) 0 (by rw [hfz];simp [List.append_assoc]) (Nat.zero_le _) ?_
   rintro k k1;have hfl:= @Zve f k;simp -implicitDefEqProofs only [go_sem,Z4 hf];repeat ((first|refine rq ?_|fail);simp -implicitDefEqProofs only [go_sem,Z4 hf])
   refine fork (fun h8=>?_) (fun h8=>?_)
   ·obtain ⟨x,hx⟩:=Z3 h8;have hxm:=f4 x (List.mem_of_getElem? hx);obtain ⟨q,rfl⟩:=Int.eq_ofNat_of_zero_le (show 0≤x by omega);have w3:=Zdd (n:=q) (by omega);have hs:Zhe m i++Zhp f (k+1)=Zhe m i++Zhp f k++varB q:=by rw [Zsn hx,nB,List.append_assoc];rfl
    simp -implicitDefEqProofs only [go_sem,Z4 hf,ZO hx];repeat ((first|refine rq ?_|refine wl ?_|refine gl ?_|refine Zbt q (by omega) rfl ?_|fail);simp -implicitDefEqProofs only [go_sem,Z4 hf,ZO hx])
    rw [ZV (by simp only [LEN];omega)];refine ZP (k+1) ?_ (by omega) (by omega);rw [hs]
   ·have hk:k=f.Zv.length:=by omega
    subst hk;simp -implicitDefEqProofs only [go_sem,Z4 hf];repeat ((first|refine rq ?_|refine wl ?_|refine gl ?_|fail);simp -implicitDefEqProofs only [go_sem,Z4 hf])
    rw [ZV (by simp only [LEN];omega)];refine ZP (i+1) ?_ (by omega) (by omega);rw [Zla hf,Zvf]
  ·have hi:i=m.Ze.length:=by omega
   subst hi;have hT:Zds m=Zgw (ZdD m):=rfl;simp -implicitDefEqProofs only [go_sem,ZuA];refine Znt (ZdD m) (by omega) rfl ?_;simp -implicitDefEqProofs only [go_sem];by_cases hl:(240:Int)<(Zgw (ZdD m)).length
   ·have dl:=decide_eq_true hl;have hno:Zav m=none:=by rw [Zav,if_neg fun h=>by have:=h.2;rw [hT] at this;omega]
    rw [Zbo,hno];simp -implicitDefEqProofs only [go_sem,dl];repeat ((first|refine rq ?_|refine wl ?_|refine gl ?_|fail);simp -implicitDefEqProofs only [go_sem,dl])
    try rfl
   ·have dl:=decide_eq_false hl;have hyes:Zav m=some (Zgw (ZdD m)):=by rw [Zav,if_pos ⟨hok,by rw [hT];omega⟩,hT]
    rw [Zbo,hyes];simp -implicitDefEqProofs only [go_sem,dl];repeat ((first|refine rq ?_|refine wl ?_|refine gl ?_|fail);simp -implicitDefEqProofs only [go_sem,dl])
    try rfl
 ·have dok:=decide_eq_false hok;have hno:Zav m=none:=by rw [Zav,if_neg fun h=>hok h.1]
  rw [Zbo,hno];simp -implicitDefEqProofs only [go_sem,ZX.cells];refine Znw m hm rfl ?_;simp -implicitDefEqProofs only [go_sem,dok];repeat ((first|refine rq ?_|refine wl ?_|refine gl ?_|fail);simp -implicitDefEqProofs only [go_sem,dok])
  try rfl
def ZbO (m:ZX) (hm:ZaD m):=kf (ZpO m hm)
theorem Zuk {s:List UInt8} {n j:Nat} {ps:List Int} {r:Nat×Bool} (hj:j<n) (hb:r.2=false):ZcR s (n - j) ps r=ZcR s (n - (j+1)) (ps++[((rdV s 1000000000 r).1:Int)]) (rdV s 1000000000 r).2:=by
 obtain ⟨k,hk⟩:∃k,n - j=k+1:=⟨n - j - 1,by omega⟩;have:n - (j+1)=k:=by omega
 rw [hk,this,ZcR,if_neg (by rw [hb];simp)]
theorem ZgA {s:List UInt8} {n:Nat} {ps:List Int} {r:Nat×Bool} (h:n=0∨r.2=true):ZcR s n ps r=(ps,r):=by
 cases n with
 |zero=>rfl
 |succ n=>rw [ZcR,if_pos (h.resolve_left (by simp))]
theorem Zvd {s:List UInt8} {n j:Nat} {ps:List Zau} {r:Nat×Bool} (hj:j<n) (hb:r.2=false):Zdn s (n - j) ps r=Zdn s (n - (j+1)) (ps++[(Zhq s r).1]) (Zhq s r).2:=by
 obtain ⟨k,hk⟩:∃k,n - j=k+1:=⟨n - j - 1,by omega⟩;have:n - (j+1)=k:=by omega
 rw [hk,this,Zdn,if_neg (by rw [hb];simp)]
theorem ZgL {s:List UInt8} {n:Nat} {ps:List Zau} {r:Nat×Bool} (h:n=0∨r.2=true):Zdn s n ps r=(ps,r):=by
 cases n with
 |zero=>rfl
 |succ n=>rw [Zdn,if_pos (h.resolve_left (by simp))]
@[go_sem] def hr174:ZW:=hh [[0],[0,2],[0,2,4,5],[0,2,6],[0,2,6,7],[0,2,6,7],[0,2,6,7],[0,2,6,7,8],[0,2,6,7,8,9],[0,2,6,7,8,9],[0,2,6,7,8,9],[0,2,6,7,8,9,10],[0,2,6,7,8,9,10,11],[0,2,6,7,8,9,10,11,12],[0,2,6,7,8,9,10,11,12],[0,2,6,7,8,9,10,11,12],[0,2,6,7,8,9,10],[0,2,6,7],[0,2,6,7,13,14],[2],[2,7]]
@[go_sem] def hl174:ZW:=hh [[],[],[],[],[],[],[],[],[0,2,6,7,8,9],[],[],[],[],[0,2,6,7,8,9,10,11,12]]
attribute [go_sem] Go.Proofs.Tryz.results174
theorem ZpJ (t:List UInt8) (ht:t.length≤4611686018427387904):ZQ Go.Proofs.Tryz.prog 174 [.d (.str t)] [] [.dead] (Zhd (ZaL t)) []:=by
 refine cofF Go.Proofs.Tryz.func174 hr174 hl174 ?_;simp -implicitDefEqProofs only [go_sem];refine ZjQ t ht rfl ⟨Zrb,Zd6⟩ ?_;cases hu:ZbE t with
 |none=>
  have hno:ZaL t=none:=by rw [ZaL,hu]
  rw [hno];have hz:rdV [] 1000000000 (0,true)=(0,(0,true)):=rfl;have hmt:Zav ⟨0,0,0,[]⟩=none:=by rw [Zav,if_neg];intro h;exact absurd h.1.1.2.1.1 (by decide)
  simp only [unV,Zhd];simp -implicitDefEqProofs only [go_sem];refine Zeh [] (0,true) (by simp) rfl rfl rfl rfl ?_;rw [hz];simp -implicitDefEqProofs only [go_sem];refine Zeh [] (0,true) (by simp) rfl rfl rfl rfl ?_;rw [hz];simp -implicitDefEqProofs only [go_sem];refine Zeh [] (0,true) (by simp) rfl rfl rfl rfl ?_;rw [hz];simp -implicitDefEqProofs only [go_sem];refine Zeh [] (0,true) (by simp) rfl rfl rfl rfl ?_;rw [hz];simp -implicitDefEqProofs only [go_sem];refine ZY (α:=Unit) (fun _=>⟨[(0,.d (.str t)),(2,.ref 0 0),(6,.ref 2 0),(7,.ref 3 0),(8,.d (.int .i64 ((0:Nat):Int))),(9,.d (.int .i64 0))],[(0,some (.box [.d (.int .i64 0),.d (.int .i64 0),.d (.int .i64 0),.own 1 0 0])),(1,some (.arr 2 [])),(2,some (.box [.d (.str []),.d (.int .i64 ((0:Nat):Int)),.d (.bool true)])),(3,some (.box [.d (.int .i64 ((0:Nat):Int)),.d (.int .i64 ((0:Nat):Int)),.d (.int .i64 ((0:Nat):Int)),.own 4 0 0])),(4,some (.arr 2 []))]⟩)
   (fun _=>True) (fun _=>0) () rfl trivial ?_
  rintro _ _;have d0:decide ((0:Int)<((0:Nat):Int))=false:=rfl;simp -implicitDefEqProofs only [go_sem,d0];repeat ((first|refine rq ?_|refine wl ?_|refine gl ?_|refine ZbO ⟨0,0,0,[]⟩ ⟨by simp,by simp⟩ (ls:=[4]) (by simp -implicitDefEqProofs only [go_sem,ZX.cells,Z9];first|done|rfl) ?_|fail);simp -implicitDefEqProofs only [go_sem,d0])
  rw [Zbo,hmt];simp -implicitDefEqProofs only [go_sem];repeat ((first|refine rq ?_|refine wl ?_|refine gl ?_|fail);simp -implicitDefEqProofs only [go_sem])
  try rfl
 |some s=>
  have hs:s.length≤20000:=(ZcW.1 hu).1;have hrm:ZaL t=if (Zgm s false).2=false∧Zav (Zgm s false).1=some t then some (Zgm s false).1 else none:=by rw [ZaL,hu]
  unfold Zgm at hrm;simp only [unV];simp only at hrm;simp -implicitDefEqProofs only [go_sem];refine Zeh s (0,false) (by omega) rfl rfl rfl rfl ?_;generalize h1:rdV s 1000000000 (0,false)=x1 at hrm ⊢;obtain ⟨A,r1,b1⟩:=x1;simp only at hrm;simp -implicitDefEqProofs only [go_sem];refine Zeh s (r1,b1) (by omega) rfl rfl rfl rfl ?_;generalize h2:rdV s 1000000000 (r1,b1)=x2 at hrm ⊢;obtain ⟨B,r2,b2⟩:=x2;simp only at hrm;simp -implicitDefEqProofs only [go_sem];refine Zeh s (r2,b2) (by omega) rfl rfl rfl rfl ?_;generalize h3:rdV s 1000000000 (r2,b2)=x3 at hrm ⊢;obtain ⟨C,r3,b3⟩:=x3;simp only at hrm
  simp -implicitDefEqProofs only [go_sem];refine Zeh s (r3,b3) (by omega) rfl rfl rfl rfl ?_;generalize h4:rdV s 1000000000 (r3,b3)=x4 at hrm ⊢;obtain ⟨n,r4,b4⟩:=x4;simp only at hrm;simp -implicitDefEqProofs only [go_sem];refine ZY (α:=Nat×List Zau×(Nat×Bool)) (fun x=>⟨[(0,.d (.str t)),(2,.ref 0 0),(6,.ref 2 0),(7,.ref 3 0),(8,.d (.int .i64 n)),(9,.d (.int .i64 (x.1:Nat)))],[(0,some (.box [.d (.int .i64 0),.d (.int .i64 0),.d (.int .i64 0),.own 1 0 0])),(1,some (.arr 2 [])),(2,some (.box [.d (.str s),.d (.int .i64 x.2.2.1),.d (.bool x.2.2.2)])),(3,some (.box [.d (.int .i64 A),.d (.int .i64 B),.d (.int .i64 C),.own 4 0 x.2.1.length])),(4,some (.arr 2 (Z9 x.2.1)))]⟩)
   (fun x=>x.1≤min n 30∧x.2.1.length≤x.1∧(∀f∈x.2.1,f.Zv.length≤50)∧Zdn s (min n 30 - x.1) x.2.1 x.2.2=Zdn s (min n 30) [] (r4,b4)) (fun x=>30 - x.1) (0,[],(r4,b4)) rfl ⟨Nat.zero_le _,by simp,by simp,rfl⟩ ?_
  rintro ⟨i,out,ra,rb⟩ ⟨i1,i2,i3,i4⟩;simp only at i1 i2 i3 i4;by_cases c1:(i:Int)<n
  ·have d1:=decide_eq_true c1;by_cases c2:(i:Int)<30
   ·have d2:=decide_eq_true c2;cases rb with
    |true=>
     simp -implicitDefEqProofs only [go_sem,d1,d2];repeat ((first|refine rq ?_|refine wl ?_|refine gl ?_|fail);simp -implicitDefEqProofs only [go_sem,d1,d2])
     have hfin:Zdn s (min n 30) [] (r4,b4)=(out,(ra,true)):=by rw [←i4];exact ZgL (.inr rfl)
     rw [hfin] at hrm;simp only at hrm;rw [if_neg (by simp)] at hrm;rw [hrm];refine ZbO ⟨A,B,C,out⟩ ⟨by simp only;omega,fun f hf=>by have:=i3 f hf;show f.Zv.length≤1048576;omega⟩ (ls:=[4]) (by simp -implicitDefEqProofs only [go_sem,ZX.cells];first|done|rfl) ?_;rw [Zbo];generalize Zav ⟨A,B,C,out⟩=o;simp only [Zhd,Option.isSome_none,Option.getD_none,Option.isSome_some,Option.getD_some];cases o
     ·simp -implicitDefEqProofs only [go_sem];repeat ((first|refine rq ?_|refine wl ?_|refine gl ?_|fail);simp -implicitDefEqProofs only [go_sem])
      try rfl
     ·simp -implicitDefEqProofs only [go_sem];repeat ((first|refine rq ?_|refine wl ?_|refine gl ?_|fail);simp -implicitDefEqProofs only [go_sem])
      try rfl
    |false=>
     have hgo:=Zvd (s:=s) (n:=min n 30) (j:=i) (ps:=out) (r:=(ra,false)) (by omega) rfl;simp -implicitDefEqProofs only [go_sem,d1,d2];repeat ((first|refine rq ?_|refine wl ?_|refine gl ?_|fail);simp -implicitDefEqProofs only [go_sem,d1,d2])
     refine Zeh s (ra,false) (by omega) rfl rfl rfl rfl ?_;generalize hT0:rdV s 1000000000 (ra,false)=x5 at hgo ⊢;obtain ⟨T0,q1,qb1⟩:=x5;simp -implicitDefEqProofs only [go_sem];refine Zeh s (q1,qb1) (by omega) rfl rfl rfl rfl ?_;generalize hK0:rdV s 1000000000 (q1,qb1)=x6;obtain ⟨K0,q0,qb⟩:=x6;simp -implicitDefEqProofs only [go_sem];refine ZY (α:=Nat×List Int×(Nat×Bool)) (fun x=>⟨[(0,.d (.str t)),(2,.ref 0 0),(6,.ref 2 0),(7,.ref 3 0),(8,.d (.int .i64 n)),(9,.d (.int .i64 i)),(10,.ref 5 0),(11,.d (.int .i64 K0)),(12,.d (.int .i64 (x.1:Nat)))],[(0,some (.box [.d (.int .i64 0),.d (.int .i64 0),.d (.int .i64 0),.own 1 0 0])),(1,some (.arr 2 [])),(2,some (.box [.d (.str s),.d (.int .i64 x.2.2.1),.d (.bool x.2.2.2)])),(3,some (.box [.d (.int .i64 A),.d (.int .i64 B),.d (.int .i64 C),.own 4 0 out.length])),(4,some (.arr 2 (Z9 out))),(5,some (.box [.d (.int .i64 T0),.own 6 0 x.2.1.length])),(6,some (.arr 1 (ints x.2.1)))]⟩)
      (fun x=>x.1≤min K0 50∧x.2.1.length≤x.1∧ZcR s (min K0 50 - x.1) x.2.1 x.2.2=ZcR s (min K0 50) [] (q0,qb)) (fun x=>50 - x.1) (0,[],(q0,qb)) rfl ⟨Nat.zero_le _,by simp,rfl⟩ ?_
     rintro ⟨j,ps,qa,qc⟩ ⟨j1,j2,j3⟩;simp only at j1 j2 j3;by_cases c3:(j:Int)<K0
     ·have d3:=decide_eq_true c3;by_cases c4:(j:Int)<50
      ·have d4:=decide_eq_true c4;cases qc with
       |true=>
        simp -implicitDefEqProofs only [go_sem,d3,d4];repeat ((first|refine rq ?_|refine wl ?_|refine gl ?_|fail);simp -implicitDefEqProofs only [go_sem,d3,d4])
        have hfin:ZcR s (min K0 50) [] (q0,qb)=(ps,(qa,true)):=by rw [←j3];exact ZgA (.inr rfl)
        have hfl:Zhq s (ra,false)=(⟨(T0:Int),ps⟩,(qa,true)):=by unfold Zhq;rw [hT0,hK0,hfin]
        rw [hfl] at hgo;simp -implicitDefEqProofs only [go_sem,Zau.cells,Zby];repeat ((first|refine rq ?_|refine wl ?_|refine gl ?_|fail);simp -implicitDefEqProofs only [go_sem,Zau.cells,Zby])
        rw [ZV (by simp only [LEN];omega)];refine ZP (i+1,out++[⟨(T0:Int),ps⟩],(qa,true)) ?_ ⟨by simp only;omega,by simp;omega,fun f hf=>?_,by simp only;rw [←hgo];exact i4⟩ (by simp only;omega)
        ·simp [Z9,Zau.cells]
        ·rcases List.mem_append.1 hf with hf|hf
         ·exact i3 f hf
         ·simp only [List.mem_singleton] at hf;subst hf;simp only;omega
       |false=>
        have hstep:=Zuk (s:=s) (n:=min K0 50) (j:=j) (ps:=ps) (r:=(qa,false)) (by omega) rfl;simp -implicitDefEqProofs only [go_sem,d3,d4];repeat ((first|refine rq ?_|refine wl ?_|refine gl ?_|refine Zeh s (qa,false) (by omega) rfl rfl rfl rfl ?_|fail);simp -implicitDefEqProofs only [go_sem,d3,d4])
        rw [ZV (by simp only [LEN];omega)];refine ZP (j+1,ps++[((rdV s 1000000000 (qa,false)).1:Int)],(rdV s 1000000000 (qa,false)).2) ?_ ⟨by simp only;omega,by simp;omega,by simp only;rw [←hstep];exact j3⟩ (by simp only;omega);simp [ints]
      ·have d4:=decide_eq_false c4;simp -implicitDefEqProofs only [go_sem,d3,d4];repeat ((first|refine rq ?_|refine wl ?_|refine gl ?_|fail);simp -implicitDefEqProofs only [go_sem,d3,d4])
       have hfin:ZcR s (min K0 50) [] (q0,qb)=(ps,(qa,qc)):=by rw [←j3];exact ZgA (.inl (by omega))
       have hfl:Zhq s (ra,false)=(⟨(T0:Int),ps⟩,(qa,qc)):=by unfold Zhq;rw [hT0,hK0,hfin]
       rw [hfl] at hgo;simp -implicitDefEqProofs only [go_sem,Zau.cells,Zby];repeat ((first|refine rq ?_|refine wl ?_|refine gl ?_|fail);simp -implicitDefEqProofs only [go_sem,Zau.cells,Zby])
       rw [ZV (by simp only [LEN];omega)];refine ZP (i+1,out++[⟨(T0:Int),ps⟩],(qa,qc)) ?_ ⟨by simp only;omega,by simp;omega,fun f hf=>?_,by simp only;rw [←hgo];exact i4⟩ (by simp only;omega)
       ·simp [Z9,Zau.cells]
       ·rcases List.mem_append.1 hf with hf|hf
        ·exact i3 f hf
        ·simp only [List.mem_singleton] at hf;subst hf;simp only;omega
     ·have d3:=decide_eq_false c3;simp -implicitDefEqProofs only [go_sem,d3];repeat ((first|refine rq ?_|refine wl ?_|refine gl ?_|fail);simp -implicitDefEqProofs only [go_sem,d3])
      have hfin:ZcR s (min K0 50) [] (q0,qb)=(ps,(qa,qc)):=by rw [←j3];exact ZgA (.inl (by omega))
      have hfl:Zhq s (ra,false)=(⟨(T0:Int),ps⟩,(qa,qc)):=by unfold Zhq;rw [hT0,hK0,hfin]
      rw [hfl] at hgo;simp -implicitDefEqProofs only [go_sem,Zau.cells,Zby];repeat ((first|refine rq ?_|refine wl ?_|refine gl ?_|fail);simp -implicitDefEqProofs only [go_sem,Zau.cells,Zby])
      rw [ZV (by simp only [LEN];omega)];refine ZP (i+1,out++[⟨(T0:Int),ps⟩],(qa,qc)) ?_ ⟨by simp only;omega,by simp;omega,fun f hf=>?_,by simp only;rw [←hgo];exact i4⟩ (by simp only;omega)
      ·simp [Z9,Zau.cells]
      ·rcases List.mem_append.1 hf with hf|hf
       ·exact i3 f hf
       ·simp only [List.mem_singleton] at hf;subst hf;simp only;omega
   ·have d2:=decide_eq_false c2;simp -implicitDefEqProofs only [go_sem,d1,d2];repeat ((first|refine rq ?_|refine wl ?_|refine gl ?_|fail);simp -implicitDefEqProofs only [go_sem,d1,d2])
    have hfin:Zdn s (min n 30) [] (r4,b4)=(out,(ra,rb)):=by rw [←i4];exact ZgL (by simp only;omega)
    rw [hfin] at hrm;simp only at hrm;refine ZbO ⟨A,B,C,out⟩ ⟨by simp only;omega,fun f hf=>by have:=i3 f hf;show f.Zv.length≤1048576;omega⟩ (ls:=[4]) (by simp -implicitDefEqProofs only [go_sem,ZX.cells];first|done|rfl) ?_;rw [Zbo];generalize hmt:Zav ⟨A,B,C,out⟩=o at hrm ⊢;cases o with
    |none=>
     rw [if_neg (by simp)] at hrm;rw [hrm];simp only [Zhd,Option.isSome_none,Option.getD_none,Option.isSome_some,Option.getD_some];cases rb
     ·simp -implicitDefEqProofs only [go_sem];repeat ((first|refine rq ?_|refine wl ?_|refine gl ?_|fail);simp -implicitDefEqProofs only [go_sem])
      try rfl
     ·simp -implicitDefEqProofs only [go_sem];repeat ((first|refine rq ?_|refine wl ?_|refine gl ?_|fail);simp -implicitDefEqProofs only [go_sem])
      try rfl
    |some u=>
     cases rb with
     |true=>
      rw [if_neg (by simp)] at hrm;rw [hrm];simp only [Zhd,Option.isSome_none,Option.getD_none,Option.isSome_some,Option.getD_some];simp -implicitDefEqProofs only [go_sem];repeat ((first|refine rq ?_|refine wl ?_|refine gl ?_|fail);simp -implicitDefEqProofs only [go_sem])
      try rfl
     |false=>
      by_cases hut:u=t
      ·have du:=decide_eq_true hut;rw [if_pos ⟨rfl,by rw [hut]⟩] at hrm;rw [hrm];simp only [Zhd,Option.isSome_none,Option.getD_none,Option.isSome_some,Option.getD_some];simp -implicitDefEqProofs only [go_sem,du,ZX.cells];repeat ((first|refine rq ?_|refine wl ?_|refine gl ?_|fail);simp -implicitDefEqProofs only [go_sem,du,ZX.cells])
       try rfl
      ·have du:=decide_eq_false hut;rw [if_neg fun h=>hut (Option.some.inj h.2)] at hrm;rw [hrm];simp only [Zhd,Option.isSome_none,Option.getD_none,Option.isSome_some,Option.getD_some];simp -implicitDefEqProofs only [go_sem,du];repeat ((first|refine rq ?_|refine wl ?_|refine gl ?_|fail);simp -implicitDefEqProofs only [go_sem,du])
       try rfl
  ·have d1:=decide_eq_false c1;simp -implicitDefEqProofs only [go_sem,d1];repeat ((first|refine rq ?_|refine wl ?_|refine gl ?_|fail);simp -implicitDefEqProofs only [go_sem,d1])
   have hfin:Zdn s (min n 30) [] (r4,b4)=(out,(ra,rb)):=by rw [←i4];exact ZgL (by simp only;omega)
   rw [hfin] at hrm;simp only at hrm;refine ZbO ⟨A,B,C,out⟩ ⟨by simp only;omega,fun f hf=>by have:=i3 f hf;show f.Zv.length≤1048576;omega⟩ (ls:=[4]) (by simp -implicitDefEqProofs only [go_sem,ZX.cells];first|done|rfl) ?_;rw [Zbo];generalize hmt:Zav ⟨A,B,C,out⟩=o at hrm ⊢;cases o with
   |none=>
    rw [if_neg (by simp)] at hrm;rw [hrm];simp only [Zhd,Option.isSome_none,Option.getD_none,Option.isSome_some,Option.getD_some];cases rb
    ·simp -implicitDefEqProofs only [go_sem];repeat ((first|refine rq ?_|refine wl ?_|refine gl ?_|fail);simp -implicitDefEqProofs only [go_sem])
     try rfl
    ·simp -implicitDefEqProofs only [go_sem];repeat ((first|refine rq ?_|refine wl ?_|refine gl ?_|fail);simp -implicitDefEqProofs only [go_sem])
     try rfl
   |some u=>
    cases rb with
    |true=>
     rw [if_neg (by simp)] at hrm;rw [hrm];simp only [Zhd,Option.isSome_none,Option.getD_none,Option.isSome_some,Option.getD_some];simp -implicitDefEqProofs only [go_sem];repeat ((first|refine rq ?_|refine wl ?_|refine gl ?_|fail);simp -implicitDefEqProofs only [go_sem])
     try rfl
    |false=>
     by_cases hut:u=t
     ·have du:=decide_eq_true hut;rw [if_pos ⟨rfl,by rw [hut]⟩] at hrm;rw [hrm];simp only [Zhd,Option.isSome_none,Option.getD_none,Option.isSome_some,Option.getD_some];simp -implicitDefEqProofs only [go_sem,du,ZX.cells];repeat ((first|refine rq ?_|refine wl ?_|refine gl ?_|fail);simp -implicitDefEqProofs only [go_sem,du,ZX.cells])
      try rfl
     ·have du:=decide_eq_false hut;rw [if_neg fun h=>hut (Option.some.inj h.2)] at hrm;rw [hrm];simp only [Zhd,Option.isSome_none,Option.getD_none,Option.isSome_some,Option.getD_some];simp -implicitDefEqProofs only [go_sem,du];repeat ((first|refine rq ?_|refine wl ?_|refine gl ?_|fail);simp -implicitDefEqProofs only [go_sem,du])
      try rfl
def ZgI (t:List UInt8) (ht:t.length≤4611686018427387904):=kf (ZpJ t ht)
end Go.Rx
