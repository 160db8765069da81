/-
  Part Q7: lemmas on an evaluator over plain data of the model's code, plain laws on lists and numbers, or contracts of functions of the program; each lemma names its conditions.
-/
import Derived.Test.YtflimjgjgligeaaGreatSA1
import Derived.Test.YtflimjgjgligeaaGreatSE1
import Derived.Test.YtflimjgjgligeaaGreatSE2
import Derived.Test.YtflimjgjgligeaaGreatSE4
import Derived.Test.YtflimjgjgligeaaGreatSE5
import Derived.Test.YtflimjgjgligeaaGreatSE6
import Derived.Test.YtflimjgjgligeaaGreatSNA
import Derived.Test.YtflimjgjgligeaaGreatSP1
import Derived.Test.YtflimjgjgligeaaGreatSP2
import Derived.Test.YtflimjgjgligeaaGreatSP3
import Derived.Test.YtflimjgjgligeaaGreatSQY

set_option linter.unusedSimpArgs false
set_option linter.unusedVariables false
set_option maxRecDepth 100000
set_option maxHeartbeats 16000000
set_option linter.defProp false
namespace Go.Rx
open Go
attribute [local irreducible] Req Way WayG Sel Z2 ZQ Zaz cVC Zai ZaO
def ZG9 (n:Z1) (i:Nat):Z1:=⟨n.Zn,n.Zj.take i++n.Zj.drop (i+1),n.ZJ.take i++n.ZJ.drop (i+1),n.Zk.take i++n.Zk.drop (i+1)⟩
@[go_sem] def hr198:ZW:=hh [[0,1],[1,2,4],[1,2,4,5],[1,2,4,5],[1,4,5],[1,4,5],[4,5]]
@[go_sem] def hl198:ZW:=hh []
attribute [go_sem] Go.Proofs.Tryz.results198
theorem ZG8 (n:Z1) (i:Nat) (hok:ZaA n) (hi:i<n.Zj.length):ZQ Go.Proofs.Tryz.prog 198 [.d (.agg n.cells),.d (.int .i64 i)] [] [.dead,.dead] (.d (.agg (ZG9 n i).cells)) []:=by
 refine cofF Go.Proofs.Tryz.func198 hr198 hl198 ?_;obtain ⟨s1,s2⟩:=ZEr hok;have hk4:=hok.2.1;have hall:=ZEs s1 s2;have e1:IntKind.i64.wrap ((i:Int)+1)=((i+1:Nat):Int):=ZV (by simp only [LEN];omega);have tK:(strs (n.Zj.take i++n.Zj.drop (i+1))).take (n.Zj.length - 1)=strs (n.Zj.take i++n.Zj.drop (i+1)):=List.take_of_length_le (by simp [strs];omega);simp -implicitDefEqProofs only [go_sem,Z1.cells];refine ZEu n 0 n.Zj.length (by omega) (by omega) (fun h=>by have:=(s1 h).1;omega) (fun h=>by have:=(s2 h).1;omega) (by omega) (by simp -implicitDefEqProofs only [go_sem,Z1.cells_eq];first|done|rfl) ?_
 rw [hall];cases hleaf:n.Zn
 ·obtain ⟨hkl,hv0⟩:=s2 hleaf;have tI:(ints (n.Zk.take i++n.Zk.drop (i+1))).take (n.Zk.length - 1)=ints (n.Zk.take i++n.Zk.drop (i+1)):=List.take_of_length_le (by simp [ints];omega);simp -implicitDefEqProofs only [go_sem,ZEl,ZEm,Z1.cells,hleaf,e1];repeat ((first|refine rq ?_|refine wl ?_|refine gl ?_|refine km_Del1Str n.Zj rfl hi (by omega) rfl ?_|refine km_Del1Int n.Zk rfl (by omega) (by omega) rfl ?_|fail);simp -implicitDefEqProofs only [go_sem,ZEl,ZEm,e1,hleaf,tK,tI])
  simp [ZG9,hleaf,hv0,Z1.cells]
 ·obtain ⟨hvl,hi0⟩:=s1 hleaf;have tV:(strs (n.ZJ.take i++n.ZJ.drop (i+1))).take (n.ZJ.length - 1)=strs (n.ZJ.take i++n.ZJ.drop (i+1)):=List.take_of_length_le (by simp [strs];omega);simp -implicitDefEqProofs only [go_sem,ZEl,ZEm,Z1.cells,hleaf,e1];repeat ((first|refine rq ?_|refine wl ?_|refine gl ?_|refine km_Del1Str n.Zj rfl hi (by omega) rfl ?_|refine km_Del1Str n.ZJ rfl (by omega) (by omega) rfl ?_|fail);simp -implicitDefEqProofs only [go_sem,ZEl,ZEm,e1,hleaf,tK,tV])
  simp [ZG9,hleaf,hi0,Z1.cells]
def ZHa (n:Z1) (i:Nat) (hok:ZaA n) (hi:i<n.Zj.length):=kf (ZG8 n i hok hi)
theorem ZHc {n:Z1} {i:Nat} (hok:ZaA n):(ZG9 n i).Zj.length≤LEN∧(ZG9 n i).ZJ.length≤LEN∧(ZG9 n i).Zk.length≤LEN:=by
 obtain ⟨s1,s2⟩:=ZEr hok;have hk4:=hok.2.1;have hv:n.ZJ.length≤4:=by
  cases hb:n.Zn with
  |true=>have:=(s1 hb).1;omega
  |false=>rw [(s2 hb).2];simp
 have hk:n.Zk.length≤4:=by
  cases hb:n.Zn with
  |false=>have:=(s2 hb).1;omega
  |true=>rw [(s1 hb).2];simp
 simp only [ZG9,List.length_append,List.length_take,List.length_drop,LEN];omega
def finB (w:ZS) (b:Bool) (n:Z1) (page:Int):ZS×Bool×Int:=
 if n.Zj=[] then (bif b then w else ZbP w page,b,0) else
  (bif (putB w b n).2.1 then (putB w b n).1 else ZbP (putB w b n).1 page,(putB w b n).2.1,(putB w b n).2.2)
theorem ZHe {w:ZS} {n:Z1} {page:Int}:finB w true n page=(w,true,0):=by unfold finB;split<;>rfl
theorem ZHb {w:ZS} {n:Z1} {page:Int}:match finU w n page with
  |some (w',p)=>finB w false n page=(w',false,p)
  |none=>finB w false n page=(w,true,0):=by
 by_cases hk:n.Zj=[]
 ·have h1:finU w n page=some (ZbP w page,0):=by rw [finU,if_pos hk]
  have h2:finB w false n page=(ZbP w page,false,0):=by rw [finB,if_pos hk];rfl
  rw [h1];exact h2
 ·cases hp:putN w n with
  |none=>
   have hB:putB w false n=(w,true,0):=by simp only [putB,hp,cond_false]
   have h1:finU w n page=none:=by rw [finU,if_neg hk,hp]
   have h2:finB w false n page=(w,true,0):=by rw [finB,if_neg hk,hB];rfl
   rw [h1];exact h2
  |some r=>
   obtain ⟨w',p⟩:=r;have hB:putB w false n=(w',false,p):=by simp only [putB,hp,cond_false]
   have h1:finU w n page=some (ZbP w' page,p):=by rw [finU,if_neg hk,hp]
   have h2:finB w false n page=(ZbP w' page,false,p):=by rw [finB,if_neg hk,hB];rfl
   rw [h1];exact h2
def ZG7 (w:ZS) (page deep:Int) (key:Key) (b:Bool) (w':ZS) (p:Int):Prop:=
 ZQ Go.Proofs.Tryz.prog 127 [.ref 0 0,.d (.int .i64 page),.d (.int .i64 deep),.d (.str key)] [(0,.box (cB w false))] [.ref 0 0,.dead,.dead,.dead] (.d (.int .i64 p)) [(0,.box (cB w' b))]
theorem ZHd {w:ZS} {b:Bool} {n:Z1} (h:smallW w):smallW (putB w b n).1:=by
 unfold putB;cases b
 ·cases hp:putN w n with
  |none=>exact h
  |some r=>exact ZeE h hp
 ·exact h
@[go_sem] def hr127:ZW:=hh [[0,1,2,3],[0,1,2,3],[0,1,2,3,9],[0,1,2,3,9,10],[0],[0],[0,1,2,3,9,10],[0,1,2,3,9,10,11],[0,1,9,10,11],[0,1,2,3,9,10,11],[0,1,9,10,11,12],[0,1,9,10,11],[0,1,9,10,11,12],[0,1,10,11,12],[0,1,11],[0,1,11,13],[0,1,11],[0,1,13],[0,13]]
@[go_sem] def hl127:ZW:=hh []
attribute [go_sem] Go.Proofs.Tryz.results127
set_option maxHeartbeats 8000000 in
theorem ci_without {ours:Int→Prop} {B:List Int} (hB:B.length≤1000) (key:Key):∀(f h:Nat) (w:ZS) (page:Int) (fk:Key) (ps:List ZR) (pg:List Int),f≤8→WOK ours B w→Tre (rdW w.Zc) h page fk ps pg→pg.Nodup→(∀q∈pg,live B w q)→
  match Zhw f w page key with
  |some (w',p)=>ZG7 w page (9 - (f:Int)) key false w' p
  |none=>∃w',smallW w'∧ZG7 w page (9 - (f:Int)) key true w' 0:=by
 intro f;induction f with
 |zero=>
  intro h w page fk ps pg hf hw ht hn hl;have hsw:=hw.smallW hB;have hrp:(ZU w.Zc page).length≤1048576:=by have:=Zay hw.disk page;omega
  have d8:decide ((8:Int)<9 - ((0:Nat):Int))=true:=rfl;obtain ⟨n,C,hrd,hfk,hcand,hpg⟩:=ZhK.1 ht;have hk4:=(Zcx _ _ hrd).2.1;refine ⟨w,hsw,?_⟩;unfold ZG7;refine cof Go.Proofs.Tryz.func127 hr127 hl127 [true,false,false,false] ?_;simp -implicitDefEqProofs only [go_sem,ZEf];refine ZFv w false page hsw.1 hrp rfl rfl rfl rfl ?_;rw [hrd];simp -implicitDefEqProofs only [go_sem,ZEf,ZFu,Option.isNone_some,Option.getD_some,Bool.or_false];repeat ((first|refine rq ?_|fail);simp -implicitDefEqProofs only [go_sem,ZEf,ZFu])
  refine ZCi n key (by simp only [LEN];omega) (ls:=[]) (by simp -implicitDefEqProofs only [go_sem,Z1.cells_eq];first|done|rfl) ?_;simp -implicitDefEqProofs only [go_sem,d8,ZEf];repeat ((first|refine rq ?_|refine wl ?_|refine gl ?_|fail);simp -implicitDefEqProofs only [go_sem,d8,ZEf])
  try rfl
 |succ f ih=>
  intro h w page fk ps pg hf hw ht hn hl;have hsw:=hw.smallW hB;have hrp:(ZU w.Zc page).length≤1048576:=by have:=Zay hw.disk page;omega
  have d8:decide ((8:Int)<9 - ((f+1:Nat):Int))=false:=decide_eq_false (by omega);obtain ⟨n,C,hrd,hfk,hcand,hpg⟩:=ZhK.1 ht;have hok:=Zcx _ _ hrd;have hk4:=hok.2.1;cases h with
  |zero=>
   obtain ⟨hleaf,hps,hC⟩:=hcand;rw [Zhw,hrd];simp only [hleaf,if_true];rcases Zlh (key:=key) hok hleaf with ⟨g1,g2⟩|⟨a,x,b,g1,g2,g3,g4,g5,g6,g7⟩
   ·rw [g1,if_pos (by omega)];have da:decide ((-1:Int)<0)=true:=rfl;refine ⟨w,hsw,?_⟩;unfold ZG7;refine cof Go.Proofs.Tryz.func127 hr127 hl127 [true,false,false,false] ?_;simp -implicitDefEqProofs only [go_sem,ZEf];refine ZFv w false page hsw.1 hrp rfl rfl rfl rfl ?_;rw [hrd];simp -implicitDefEqProofs only [go_sem,ZEf,ZFu,Option.isNone_some,Option.getD_some,Bool.or_false];repeat ((first|refine rq ?_|fail);simp -implicitDefEqProofs only [go_sem,ZEf,ZFu])
    refine ZCi n key (by simp only [LEN];omega) (ls:=[]) (by simp -implicitDefEqProofs only [go_sem,Z1.cells_eq];first|done|rfl) ?_;rw [g1];simp -implicitDefEqProofs only [go_sem,d8,da,ZEf];repeat ((first|refine rq ?_|refine wl ?_|refine gl ?_|fail);simp -implicitDefEqProofs only [go_sem,d8,da,ZEf])
    try rfl
   ·rw [g2,if_neg (by omega),Int.toNat_natCast,g6];have da:decide ((a.length:Int)<0)=false:=decide_eq_false (by omega);have hlen:=Ze2 hok hleaf;rw [g1,List.length_append,List.length_cons] at hlen;have hka:n.Zj[a.length]? =some x.Zi:=by rw [←Zb6 hok hleaf,g1];simp
    by_cases hxk:x.Zi=key
    ·have dq:=decide_eq_true hxk;rw [if_pos hxk];have hE:ZG9 n a.length=Za2 ((Zaq n).eraseIdx a.length):=by
      obtain ⟨hvl,hi0⟩:=(ZEr hok).1 hleaf;have hV:n.ZJ=(Zaq n).map (·.ZI):=by
       simp only [Zaq,List.map_map,Function.comp_def,Zfq];exact (List.map_snd_zip (by omega)).symm
      have hK:=(Zb6 hok hleaf).symm;rw [List.eraseIdx_eq_take_drop_succ];simp only [ZG9,Za2,hleaf,hi0,List.take_nil,List.drop_nil,List.append_nil,List.map_append,List.map_take,List.map_drop,←hK,←hV]
     rw [←hE];have hA:=ZHb (w:=w) (n:=ZG9 n a.length) (page:=page);have core:ZG7 w page (9 - ((f+1:Nat):Int)) key (finB w false (ZG9 n a.length) page).2.1 (finB w false (ZG9 n a.length) page).1 (finB w false (ZG9 n a.length) page).2.2:=by
      unfold ZG7;refine cof Go.Proofs.Tryz.func127 hr127 hl127 [true,false,false,false] ?_;simp -implicitDefEqProofs only [go_sem,ZEf];refine ZFv w false page hsw.1 hrp rfl rfl rfl rfl ?_;rw [hrd];simp -implicitDefEqProofs only [go_sem,ZEf,ZFu,Option.isNone_some,Option.getD_some,Bool.or_false];repeat ((first|refine rq ?_|fail);simp -implicitDefEqProofs only [go_sem,ZEf,ZFu])
      refine ZCi n key (by simp only [LEN];omega) (ls:=[]) (by simp -implicitDefEqProofs only [go_sem,Z1.cells_eq];first|done|rfl) ?_;rw [g2];simp -implicitDefEqProofs only [go_sem,d8,da,dq,hleaf,ZM hka,ZEf];repeat ((first|refine rq ?_|refine wl ?_|refine gl ?_|fail);simp -implicitDefEqProofs only [go_sem,d8,da,dq,hleaf,ZM hka,ZEf])
      refine ZHa n a.length hok (by omega) (by simp -implicitDefEqProofs only [go_sem,Z1.cells_eq,hleaf];first|done|rfl) ?_;obtain ⟨hN1,hN2,hN3⟩:=ZHc (i:=a.length) hok;generalize ZG9 n a.length=n' at hN1 hN2 hN3 ⊢;simp -implicitDefEqProofs only [go_sem,Z1.cells];repeat ((first|refine rq ?_|refine wl ?_|refine gl ?_|fail);simp -implicitDefEqProofs only [go_sem,Z1.cells])
      by_cases hk0:n'.Zj=[]
      ·have d0:decide ((0:Int)<(n'.Zj.length:Int))=false:=decide_eq_false (by rw [hk0];simp);have hf:finB w false n' page=(bif false then w else ZbP w page,false,0):=by rw [finB,if_pos hk0]
       rw [hf];simp -implicitDefEqProofs only [go_sem,d0,ZEf];repeat ((first|refine rq ?_|refine wl ?_|refine gl ?_|fail);simp -implicitDefEqProofs only [go_sem,d0,ZEf])
       refine ZFy w false page hsw rfl rfl rfl rfl ?_;simp -implicitDefEqProofs only [go_sem,ZEf];repeat ((first|refine rq ?_|refine wl ?_|refine gl ?_|fail);simp -implicitDefEqProofs only [go_sem,ZEf])
       try rfl
      ·have d0:decide ((0:Int)<(n'.Zj.length:Int))=true:=decide_eq_true (by have:=List.length_pos_iff.2 hk0;omega);have hf:finB w false n' page=(bif (putB w false n').2.1 then (putB w false n').1 else ZbP (putB w false n').1 page,(putB w false n').2.1,(putB w false n').2.2):=by rw [finB,if_neg hk0]
       rw [hf];simp -implicitDefEqProofs only [go_sem,d0,ZEf];repeat ((first|refine rq ?_|refine wl ?_|refine gl ?_|fail);simp -implicitDefEqProofs only [go_sem,d0,ZEf])
       refine ZFw w false n' hsw hN1 hN2 hN3 rfl rfl (by simp -implicitDefEqProofs only [go_sem,Z1.cells_eq];first|done|rfl) rfl ?_;simp -implicitDefEqProofs only [go_sem,ZEf];repeat ((first|refine rq ?_|refine wl ?_|refine gl ?_|fail);simp -implicitDefEqProofs only [go_sem,ZEf])
       refine ZFy (putB w false n').1 (putB w false n').2.1 page (ZHd hsw) rfl rfl rfl rfl ?_;simp -implicitDefEqProofs only [go_sem,ZEf];repeat ((first|refine rq ?_|refine wl ?_|refine gl ?_|fail);simp -implicitDefEqProofs only [go_sem,ZEf])
       try rfl
     cases ha:finU w (ZG9 n a.length) page with
     |none=>rw [ha] at hA;simp only at hA;rw [hA] at core;exact ⟨_,hsw,core⟩
     |some r=>obtain ⟨w',p⟩:=r;rw [ha] at hA;simp only at hA;rw [hA] at core;exact core
    ·have dq:=decide_eq_false hxk;rw [if_neg hxk];refine ⟨w,hsw,?_⟩;unfold ZG7;refine cof Go.Proofs.Tryz.func127 hr127 hl127 [true,false,false,false] ?_;simp -implicitDefEqProofs only [go_sem,ZEf];refine ZFv w false page hsw.1 hrp rfl rfl rfl rfl ?_;rw [hrd];simp -implicitDefEqProofs only [go_sem,ZEf,ZFu,Option.isNone_some,Option.getD_some,Bool.or_false];repeat ((first|refine rq ?_|fail);simp -implicitDefEqProofs only [go_sem,ZEf,ZFu])
     refine ZCi n key (by simp only [LEN];omega) (ls:=[]) (by simp -implicitDefEqProofs only [go_sem,Z1.cells_eq];first|done|rfl) ?_;rw [g2];simp -implicitDefEqProofs only [go_sem,d8,da,dq,hleaf,ZM hka,ZEf];repeat ((first|refine rq ?_|refine wl ?_|refine gl ?_|fail);simp -implicitDefEqProofs only [go_sem,d8,da,dq,hleaf,ZM hka,ZEf])
     try rfl
  |succ h=>
   obtain ⟨hleaf,ks,h4,h5,h6,h7,h8,h9⟩:=hcand;obtain ⟨hkl,hv0⟩:=(ZEr hok).2 hleaf;rw [Zhw,hrd];simp only [hleaf,Bool.false_eq_true,if_false];rcases ZiD (key:=key) h4 h5 with ⟨g1,g2⟩|⟨pre,s,post,e1,g2,g3,g4,g5⟩
   ·rw [g1,if_pos (by omega)];have da:decide ((-1:Int)<0)=true:=rfl;refine ⟨w,hsw,?_⟩;unfold ZG7;refine cof Go.Proofs.Tryz.func127 hr127 hl127 [true,false,false,false] ?_;simp -implicitDefEqProofs only [go_sem,ZEf];refine ZFv w false page hsw.1 hrp rfl rfl rfl rfl ?_;rw [hrd];simp -implicitDefEqProofs only [go_sem,ZEf,ZFu,Option.isNone_some,Option.getD_some,Bool.or_false];repeat ((first|refine rq ?_|fail);simp -implicitDefEqProofs only [go_sem,ZEf,ZFu])
    refine ZCi n key (by simp only [LEN];omega) (ls:=[]) (by simp -implicitDefEqProofs only [go_sem,Z1.cells_eq];first|done|rfl) ?_;rw [g1];simp -implicitDefEqProofs only [go_sem,d8,da,ZEf];repeat ((first|refine rq ?_|refine wl ?_|refine gl ?_|fail);simp -implicitDefEqProofs only [go_sem,d8,da,ZEf])
    try rfl
   ·rw [g2,if_neg (by omega),Int.toNat_natCast,g5];have da:decide ((pre.length:Int)<0)=false:=decide_eq_false (by omega);have hs:s∈ks:=by rw [e1];simp
    rw [hpg,h9] at hn hl;obtain ⟨n1,n2⟩:=List.nodup_cons.1 hn;have hsp:∀q∈s.pages,q∈ks.flatMap Sub.pages:=fun q hq=>List.mem_flatMap.2 ⟨s,hs,hq⟩
    have hplen:pre.length<n.Zj.length:=by rw [h4,e1];simp
    have hkid:n.Zk[pre.length]? =some s.page:=by rw [h5,e1];simp
    have e8:IntKind.i64.wrap ((9:Int) - ((f+1:Nat):Int)+1)=9 - (f:Int):=by rw [Zad (by omega) (by omega)];omega
    have e8w:IntKind.i64.wrap (9 - (f:Int))=9 - (f:Int):=Zad (by omega) (by omega);have hih:=ih h w s.page s.fst s.pairs s.pages (by omega) hw (h6 s hs) (ZbA n2 hs) (fun q hq=>hl q (List.mem_cons_of_mem _ (hsp q hq)));have hzl:(n.Zj.zip n.Zk).map (·.1)=n.Zj:=List.map_fst_zip (by omega);have hzr:(n.Zj.zip n.Zk).map (·.2)=n.Zk:=List.map_snd_zip (by omega);have hE:ZG9 n pre.length=Z0 ((n.Zj.zip n.Zk).eraseIdx pre.length):=by
     rw [List.eraseIdx_eq_take_drop_succ];simp only [ZG9,Z0,hleaf,hv0,List.take_nil,List.drop_nil,List.append_nil,List.map_append,List.map_take,List.map_drop,hzl,hzr]
    cases hu:Zhw f w s.page key with
    |none=>
     rw [hu] at hih;obtain ⟨w1,hsw1,hih⟩:=hih;unfold ZG7 at hih;have d0z:decide ((0:Int)=0)=true:=rfl;have core:ZG7 w page (9 - ((f+1:Nat):Int)) key (finB w1 true (ZG9 n pre.length) page).2.1 (finB w1 true (ZG9 n pre.length) page).1 (finB w1 true (ZG9 n pre.length) page).2.2:=by
      unfold ZG7;refine cof Go.Proofs.Tryz.func127 hr127 hl127 [true,false,false,false] ?_;simp -implicitDefEqProofs only [go_sem,ZEf];refine ZFv w false page hsw.1 hrp rfl rfl rfl rfl ?_;rw [hrd];simp -implicitDefEqProofs only [go_sem,ZEf,ZFu,Option.isNone_some,Option.getD_some,Bool.or_false];repeat ((first|refine rq ?_|fail);simp -implicitDefEqProofs only [go_sem,ZEf,ZFu])
      refine ZCi n key (by simp only [LEN];omega) (ls:=[]) (by simp -implicitDefEqProofs only [go_sem,Z1.cells_eq];first|done|rfl) ?_;rw [g2];simp -implicitDefEqProofs only [go_sem,d8,da,hleaf,ZEf];repeat ((first|refine rq ?_|refine wl ?_|refine gl ?_|fail);simp -implicitDefEqProofs only [go_sem,d8,da,hleaf,ZO hkid,e8,ZEf])
      refine Za3 false (xs:=[.int .i64 s.page,.int .i64 (9 - (f:Int)),.str key]) hih rfl rfl rfl (by simp -implicitDefEqProofs only [go_sem,e8w];first|done|rfl) rfl rfl rfl rfl (.inr (.inl rfl)) ?_;simp -implicitDefEqProofs only [go_sem,ZEf,d0z];repeat ((first|refine rq ?_|refine wl ?_|refine gl ?_|fail);simp -implicitDefEqProofs only [go_sem,ZEf,d0z])
      refine ZHa n pre.length hok (by omega) (by simp -implicitDefEqProofs only [go_sem,Z1.cells_eq,hleaf];first|done|rfl) ?_;obtain ⟨hN1,hN2,hN3⟩:=ZHc (i:=pre.length) hok;generalize ZG9 n pre.length=n' at hN1 hN2 hN3 ⊢;simp -implicitDefEqProofs only [go_sem,Z1.cells];repeat ((first|refine rq ?_|refine wl ?_|refine gl ?_|fail);simp -implicitDefEqProofs only [go_sem,Z1.cells])
      by_cases hk0:n'.Zj=[]
      ·have d0:decide ((0:Int)<(n'.Zj.length:Int))=false:=decide_eq_false (by rw [hk0];simp);have hf:finB w1 true n' page=(bif true then w1 else ZbP w1 page,true,0):=by rw [finB,if_pos hk0]
       rw [hf];simp -implicitDefEqProofs only [go_sem,d0,ZEf];repeat ((first|refine rq ?_|refine wl ?_|refine gl ?_|fail);simp -implicitDefEqProofs only [go_sem,d0,ZEf])
       refine ZFy w1 true page hsw1 rfl rfl rfl rfl ?_;simp -implicitDefEqProofs only [go_sem,ZEf];repeat ((first|refine rq ?_|refine wl ?_|refine gl ?_|fail);simp -implicitDefEqProofs only [go_sem,ZEf])
       try rfl
      ·have d0:decide ((0:Int)<(n'.Zj.length:Int))=true:=decide_eq_true (by have:=List.length_pos_iff.2 hk0;omega);have hf:finB w1 true n' page=(bif (putB w1 true n').2.1 then (putB w1 true n').1 else ZbP (putB w1 true n').1 page,(putB w1 true n').2.1,(putB w1 true n').2.2):=by rw [finB,if_neg hk0]
       rw [hf];simp -implicitDefEqProofs only [go_sem,d0,ZEf];repeat ((first|refine rq ?_|refine wl ?_|refine gl ?_|fail);simp -implicitDefEqProofs only [go_sem,d0,ZEf])
       refine ZFw w1 true n' hsw1 hN1 hN2 hN3 rfl rfl (by simp -implicitDefEqProofs only [go_sem,Z1.cells_eq];first|done|rfl) rfl ?_;simp -implicitDefEqProofs only [go_sem,ZEf];repeat ((first|refine rq ?_|refine wl ?_|refine gl ?_|fail);simp -implicitDefEqProofs only [go_sem,ZEf])
       refine ZFy (putB w1 true n').1 (putB w1 true n').2.1 page (ZHd hsw1) rfl rfl rfl rfl ?_;simp -implicitDefEqProofs only [go_sem,ZEf];repeat ((first|refine rq ?_|refine wl ?_|refine gl ?_|fail);simp -implicitDefEqProofs only [go_sem,ZEf])
       try rfl
     rw [ZHe] at core;exact ⟨w1,hsw1,core⟩
    |some r=>
     obtain ⟨w1,k⟩:=r;rw [hu] at hih;simp only at hih ⊢;unfold ZG7 at hih;obtain ⟨_,pg',hdr⟩:=Zf6 hw (h6 s hs) (ZbA n2 hs) (fun q hq=>hl q (List.mem_cons_of_mem _ (hsp q hq))) hu;have hsw1:=hdr.ok.smallW hB;by_cases hk:k=0
     ·have d0z:=decide_eq_true hk;rw [if_pos hk,←hE];have hA:=ZHb (w:=w1) (n:=ZG9 n pre.length) (page:=page);have core:ZG7 w page (9 - ((f+1:Nat):Int)) key (finB w1 false (ZG9 n pre.length) page).2.1 (finB w1 false (ZG9 n pre.length) page).1 (finB w1 false (ZG9 n pre.length) page).2.2:=by
       unfold ZG7;refine cof Go.Proofs.Tryz.func127 hr127 hl127 [true,false,false,false] ?_;simp -implicitDefEqProofs only [go_sem,ZEf];refine ZFv w false page hsw.1 hrp rfl rfl rfl rfl ?_;rw [hrd];simp -implicitDefEqProofs only [go_sem,ZEf,ZFu,Option.isNone_some,Option.getD_some,Bool.or_false];repeat ((first|refine rq ?_|fail);simp -implicitDefEqProofs only [go_sem,ZEf,ZFu])
       refine ZCi n key (by simp only [LEN];omega) (ls:=[]) (by simp -implicitDefEqProofs only [go_sem,Z1.cells_eq];first|done|rfl) ?_;rw [g2];simp -implicitDefEqProofs only [go_sem,d8,da,hleaf,ZEf];repeat ((first|refine rq ?_|refine wl ?_|refine gl ?_|fail);simp -implicitDefEqProofs only [go_sem,d8,da,hleaf,ZO hkid,e8,ZEf])
       refine Za3 false (xs:=[.int .i64 s.page,.int .i64 (9 - (f:Int)),.str key]) hih rfl rfl rfl (by simp -implicitDefEqProofs only [go_sem,e8w];first|done|rfl) rfl rfl rfl rfl (.inr (.inl rfl)) ?_;simp -implicitDefEqProofs only [go_sem,ZEf,d0z];repeat ((first|refine rq ?_|refine wl ?_|refine gl ?_|fail);simp -implicitDefEqProofs only [go_sem,ZEf,d0z])
       refine ZHa n pre.length hok (by omega) (by simp -implicitDefEqProofs only [go_sem,Z1.cells_eq,hleaf];first|done|rfl) ?_;obtain ⟨hN1,hN2,hN3⟩:=ZHc (i:=pre.length) hok;generalize ZG9 n pre.length=n' at hN1 hN2 hN3 ⊢;simp -implicitDefEqProofs only [go_sem,Z1.cells];repeat ((first|refine rq ?_|refine wl ?_|refine gl ?_|fail);simp -implicitDefEqProofs only [go_sem,Z1.cells])
       by_cases hk0:n'.Zj=[]
       ·have d0:decide ((0:Int)<(n'.Zj.length:Int))=false:=decide_eq_false (by rw [hk0];simp);have hf:finB w1 false n' page=(bif false then w1 else ZbP w1 page,false,0):=by rw [finB,if_pos hk0]
        rw [hf];simp -implicitDefEqProofs only [go_sem,d0,ZEf];repeat ((first|refine rq ?_|refine wl ?_|refine gl ?_|fail);simp -implicitDefEqProofs only [go_sem,d0,ZEf])
        refine ZFy w1 false page hsw1 rfl rfl rfl rfl ?_;simp -implicitDefEqProofs only [go_sem,ZEf];repeat ((first|refine rq ?_|refine wl ?_|refine gl ?_|fail);simp -implicitDefEqProofs only [go_sem,ZEf])
        try rfl
       ·have d0:decide ((0:Int)<(n'.Zj.length:Int))=true:=decide_eq_true (by have:=List.length_pos_iff.2 hk0;omega);have hf:finB w1 false n' page=(bif (putB w1 false n').2.1 then (putB w1 false n').1 else ZbP (putB w1 false n').1 page,(putB w1 false n').2.1,(putB w1 false n').2.2):=by rw [finB,if_neg hk0]
        rw [hf];simp -implicitDefEqProofs only [go_sem,d0,ZEf];repeat ((first|refine rq ?_|refine wl ?_|refine gl ?_|fail);simp -implicitDefEqProofs only [go_sem,d0,ZEf])
        refine ZFw w1 false n' hsw1 hN1 hN2 hN3 rfl rfl (by simp -implicitDefEqProofs only [go_sem,Z1.cells_eq];first|done|rfl) rfl ?_;simp -implicitDefEqProofs only [go_sem,ZEf];repeat ((first|refine rq ?_|refine wl ?_|refine gl ?_|fail);simp -implicitDefEqProofs only [go_sem,ZEf])
        refine ZFy (putB w1 false n').1 (putB w1 false n').2.1 page (ZHd hsw1) rfl rfl rfl rfl ?_;simp -implicitDefEqProofs only [go_sem,ZEf];repeat ((first|refine rq ?_|refine wl ?_|refine gl ?_|fail);simp -implicitDefEqProofs only [go_sem,ZEf])
        try rfl
      cases ha:finU w1 (ZG9 n pre.length) page with
      |none=>rw [ha] at hA;simp only at hA;rw [hA] at core;exact ⟨_,hsw1,core⟩
      |some r=>obtain ⟨w',p⟩:=r;rw [ha] at hA;simp only at hA;rw [hA] at core;exact core
     ·have d0z:=decide_eq_false hk;rw [if_neg hk];have hki:n.Zj[pre.length]? =some s.key:=by rw [h4,e1];simp
      have hZ:(n.Zj.zip n.Zk).set pre.length (((n.Zj.zip n.Zk).getD pre.length ([],0)).1,k)=pre.map ZaZ++(s.key,k)::post.map ZaZ:=by
       rw [ZiN h4 h5,e1];have e:(pre++s::post).map ZaZ=pre.map ZaZ++ZaZ s::post.map ZaZ:=by simp
       have l:pre.length=(pre.map ZaZ).length:=by simp
       rw [e,l,Zf3,ZyN];rfl
      rw [hZ];generalize hn':Z0 (pre.map ZaZ++(s.key,k)::post.map ZaZ)=n';have hnK:n'.Zj=n.Zj:=by rw [←hn',h4,e1];simp [Z0,ZaZ];rfl
      have hnI:n'.Zk=n.Zk.set pre.length k:=by rw [←hn',h5,e1];simp [Z0,ZaZ];rfl
      have hnV:n'.ZJ=[]∧n'.Zn=false:=by rw [←hn'];exact ⟨rfl,rfl⟩
      have hN1:n'.Zj.length≤LEN:=by rw [hnK];simp only [LEN];omega
      have hN2:n'.ZJ.length≤LEN:=by rw [hnV.1];simp [LEN]
      have hN3:n'.Zk.length≤LEN:=by rw [hnI,List.length_set];simp only [LEN];omega
      have hk0:¬n'.Zj=[]:=by rw [hnK];intro e;rw [e] at hplen;simp at hplen
      have d0:decide ((0:Int)<(n.Zj.length:Int))=true:=decide_eq_true (by omega);have hf:finB w1 false n' page=(bif (putB w1 false n').2.1 then (putB w1 false n').1 else ZbP (putB w1 false n').1 page,(putB w1 false n').2.1,(putB w1 false n').2.2):=by rw [finB,if_neg hk0]
      have hti:(ints (n.Zk.set pre.length k)).take n.Zk.length=ints (n.Zk.set pre.length k):=List.take_of_length_le (by simp [ints]);have hA:=ZHb (w:=w1) (n:=n') (page:=page);have core:ZG7 w page (9 - ((f+1:Nat):Int)) key (finB w1 false n' page).2.1 (finB w1 false n' page).1 (finB w1 false n' page).2.2:=by
       rw [hf];unfold ZG7;refine cof Go.Proofs.Tryz.func127 hr127 hl127 [true,false,false,false] ?_;simp -implicitDefEqProofs only [go_sem,ZEf];refine ZFv w false page hsw.1 hrp rfl rfl rfl rfl ?_;rw [hrd];simp -implicitDefEqProofs only [go_sem,ZEf,ZFu,Option.isNone_some,Option.getD_some,Bool.or_false];repeat ((first|refine rq ?_|fail);simp -implicitDefEqProofs only [go_sem,ZEf,ZFu])
       refine ZCi n key (by simp only [LEN];omega) (ls:=[]) (by simp -implicitDefEqProofs only [go_sem,Z1.cells_eq];first|done|rfl) ?_;rw [g2];simp -implicitDefEqProofs only [go_sem,d8,da,hleaf,ZEf];repeat ((first|refine rq ?_|refine wl ?_|refine gl ?_|fail);simp -implicitDefEqProofs only [go_sem,d8,da,hleaf,ZO hkid,e8,ZEf])
       refine Za3 false (xs:=[.int .i64 s.page,.int .i64 (9 - (f:Int)),.str key]) hih rfl rfl rfl (by simp -implicitDefEqProofs only [go_sem,e8w];first|done|rfl) rfl rfl rfl rfl (.inr (.inl rfl)) ?_;simp -implicitDefEqProofs only [go_sem,ZEf,d0z];repeat ((first|refine rq ?_|refine wl ?_|refine gl ?_|fail);simp -implicitDefEqProofs only [go_sem,ZEf,d0z])
       refine ZEu n 0 n.Zj.length (by omega) (by omega) (fun h=>by rw [hleaf] at h;cases h) (fun _=>by omega) (by omega) (by simp -implicitDefEqProofs only [go_sem,Z1.cells_eq,hleaf];first|done|rfl) ?_;rw [ZEs (ZEr hok).1 (ZEr hok).2];simp -implicitDefEqProofs only [go_sem,ZEl,ZEm,ZEf,hleaf,d0];repeat ((first|refine rq ?_|refine wl ?_|refine gl ?_|fail);simp -implicitDefEqProofs only [go_sem,ZEl,ZEm,ZEf,hleaf,ZO hkid,Zq3,d0])
       refine ZFw w1 false n' hsw1 hN1 hN2 hN3 rfl rfl (by simp -implicitDefEqProofs only [go_sem,Z1.cells_eq,hnK,hnI,hnV.1,hnV.2,hv0,hti,Zdz];first|done|rfl) rfl ?_;simp -implicitDefEqProofs only [go_sem,ZEf];repeat ((first|refine rq ?_|refine wl ?_|refine gl ?_|fail);simp -implicitDefEqProofs only [go_sem,ZEf])
       refine ZFy (putB w1 false n').1 (putB w1 false n').2.1 page (ZHd hsw1) rfl rfl rfl rfl ?_;simp -implicitDefEqProofs only [go_sem,ZEf];repeat ((first|refine rq ?_|refine wl ?_|refine gl ?_|fail);simp -implicitDefEqProofs only [go_sem,ZEf])
       try rfl
      cases ha:finU w1 n' page with
      |none=>rw [ha] at hA;simp only at hA;rw [hA] at core;exact ⟨_,hsw1,core⟩
      |some r=>obtain ⟨w',p⟩:=r;rw [ha] at hA;simp only at hA;rw [hA] at core;exact core
end Go.Rx

