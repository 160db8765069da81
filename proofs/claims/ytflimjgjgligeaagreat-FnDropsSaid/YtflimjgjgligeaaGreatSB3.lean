/-
  Part B3: lemmas on an evaluator over plain data of the model's code, plain laws on lists and numbers, or contracts of functions of the program; each lemma names its conditions.
-/
import Derived.Test.YtflimjgjgligeaaGreatSB2
import Derived.Test.YtflimjgjgligeaaGreatSP3

set_option linter.unusedSimpArgs false
set_option linter.unusedVariables false
set_option maxRecDepth 100000
set_option maxHeartbeats 16000000
namespace Go.Rx
open Go
attribute [local irreducible] Req Way WayG Sel Z2 ZQ Zaz cVC Zai ZaO
theorem ZpD (w:ZS) (n:Z1) (hw:smallW w) (h1:n.Zj.length≤100) (h2:n.Zn=true→n.ZJ.length=n.Zj.length∧n.Zk=[]) (h3:n.Zn=false→n.Zk.length=n.Zj.length∧n.ZJ=[]):match putS w (Zat n) with
  |some (w',kk)=>Zrs w n true w' kk
  |none=>∃w' kk,Zrs w n false w' kk:=by
 have h:=Zxu w n hw h1 h2 h3;have he:=Zq5 (ns:=Zat n) (w:=w);cases hp:putS w (Zat n) with
 |none=>rw [hp] at he;simp only at he;rw [he] at h;exact ⟨_,_,h⟩
 |some r=>rw [hp] at he;simp only at he;rw [he] at h;exact h
theorem Zfl {l:List Key}:∀c∈strs l,c.length=1:=fun c hc=>by simp only [strs,List.mem_map] at hc;obtain ⟨_,_,rfl⟩:=hc;rfl
theorem Zig {l:List Key}:∀c∈strs l,∀d∈c,d.one=true:=fun c hc d hd=>by simp only [strs,List.mem_map] at hc;obtain ⟨_,_,rfl⟩:=hc;simp at hd;subst hd;rfl
theorem ZfD {l:List Int}:∀c∈ints l,c.length=1:=fun c hc=>by simp only [ints,List.mem_map] at hc;obtain ⟨_,_,rfl⟩:=hc;rfl
theorem Zit {l:List Int}:∀c∈ints l,∀d∈c,d.one=true:=fun c hc d hd=>by simp only [ints,List.mem_map] at hc;obtain ⟨_,_,rfl⟩:=hc;simp at hd;subst hd;rfl
theorem Zcw {kk:List (Key×Int)}:((strs (kk.map (·.1))).drop 1).take (kk.length - 1)=strs ((kk.drop 1).map (·.1)):=by
 rw [List.take_of_length_le (by simp [strs])];simp [strs,List.map_drop]
theorem ZiR {kk:List (Key×Int)}:(strs (kk.map (·.1))).take kk.length=strs (kk.map (·.1)):=List.take_of_length_le (by simp [strs])
theorem Zcp {kk:List (Key×Int)}:(ints (kk.map (·.2))).take kk.length=ints (kk.map (·.2)):=List.take_of_length_le (by simp [ints])
theorem Zdf {J:List (Key×Int)} {x:Key} {m:List Key}:(strs (J.map (·.1)++[x])).take (J.length+1)++strs m=strs (J.map (·.1)++x::m):=by
 rw [List.take_of_length_le (by simp [strs])];simp [strs]
theorem Zdm {J:List (Key×Int)} {m:List Int}:ints (J.map (·.2))++ints m=ints (J.map (·.2)++m):=by simp [ints]
theorem Zic:Int.toNat 1=1:=rfl
theorem Zde {l:List Key}:(strs l).length=l.length:=ZdT
def PutC (w:ZS) (page deep:Int) (key val:Key) (b:Bool) (w':ZS) (kk:List (Key×Int)):Prop:=
 ZQ Go.Proofs.Tryz.prog 125 [.ref 0 0,.d (.int .i64 page),.d (.int .i64 deep),.d (.str key),.d (.str val)] [(0,.box (wV w))] [.ref 0 0,.dead,.dead,.dead,.dead]
  (.tup [.own 1 0 kk.length,.own 2 0 kk.length,.d (.bool b)]) ((0,.box (wV w'))::kkH kk)
@[go_sem] def hr125:ZW:=hh [[0,1,2,3,4],[0,1,2,3,4],[0,1,2,3,4,13,14],[0],[0,1,2,3,4,13],[0,1,2,3,4,13,15],[0,1,3,4,13,15],[0,1,2,3,4,13,15],[0,1,2,3,4,13,15,16],[0,1,2,3,4,13,15],[0,1,2,3,4,13,15,16],[0,1,13,15,16,17,18,19],[0,17,18],[0,1,13,15,16,17,18],[0,1,13,15,16,17,18,20],[0,1,13,15,16,17,18,20],[0,1,13,15,16,17,18,20],[0,1,13,15,16,17,18,20],[0,1,13,15,16,17,18,20],[0,1,13,15,16,17,18,20],[0,1,13,15,16,17,18,20,21],[0,1,13,15,16,17,18,20],[0,1,13,15,16,17,18,20,21],[0,1,13,15,16,17,18,20],[0,1,15],[0,1,22,23,24],[0,22,23],[0,1,22,23],[0,22,23]]
@[go_sem] def hl125:ZW:=hh [[],[],[],[],[],[],[],[],[],[],[],[],[],[],[0,1,13,15,16,17,18,20]]
attribute [go_sem] Go.Proofs.Tryz.results125
set_option maxHeartbeats 8000000 in
theorem cs_put {ours:Int→Prop} {B:List Int} (hB:B.length≤1000) (key val:Key):∀(f h:Nat) (w:ZS) (page:Int) (fk:Key) (ps:List ZR) (pg:List Int),f≤8→WOK ours B w→Tre (rdW w.Zc) h page fk ps pg→pg.Nodup→(∀q∈pg,live B w q)→
  match putU f w page key val with
  |some (w',kk,_)=>PutC w page (8 - (f:Int)) key val true w' kk
  |none=>∃w' kk,PutC w page (8 - (f:Int)) key val false w' kk:=by
 intro f;induction f with
 |zero=>
  intro h w page fk ps pg hf hw ht hn hl;have hsw:=hw.smallW hB;have d8:decide ((8:Int)≤8 - ((0:Nat):Int))=true:=rfl;refine ⟨w,[],?_⟩;unfold PutC;refine cof Go.Proofs.Tryz.func125 hr125 hl125 [true,false,false,false,false] ?_;simp -implicitDefEqProofs only [go_sem,Z8,Zan];refine Zal w.Zc page (by have:=hsw.1.1;omega) (by have:=hsw.1.2;omega) rfl ?_;simp -implicitDefEqProofs only [go_sem];refine Zas (ZU w.Zc page) (by have:=Zay hw.disk page;omega) rfl ?_;cases hr:ZaH (ZU w.Zc page) with
  |none=>
   simp only [ZfW];simp -implicitDefEqProofs only [go_sem,d8,Z8,Zan];repeat ((first|refine rq ?_|fail);simp -implicitDefEqProofs only [go_sem,d8,Z8,Zan])
   rfl
  |some n=>
   simp only [ZaE];simp -implicitDefEqProofs only [go_sem,d8,Z8,Zan];repeat ((first|refine rq ?_|fail);simp -implicitDefEqProofs only [go_sem,d8,Z8,Zan])
   rfl
 |succ f ih=>
  intro h w page fk ps pg hf hw ht hn hl;have hsw:=hw.smallW hB;have d8:decide ((8:Int)≤8 - ((f+1:Nat):Int))=false:=decide_eq_false (by omega);obtain ⟨n,C,hrd,hfk,hcand,hpg⟩:=ZhK.1 ht;have hrn:ZaH (ZU w.Zc page)=some n:=hrd;have hok:=Zcx _ _ hrd;have hk4:=hok.2.1;cases h with
  |zero=>
   obtain ⟨hleaf,hps,hC⟩:=hcand;have hpu:putU (f+1) w page key val=(ZdH w (Zat (Za2 (mput (Zaq n) key val))) page).map fun r=>(r.1,r.2,0):=by
    rw [putU,hrd];simp only [hleaf,if_true]
   rw [hpu];have hvl:n.ZJ.length=n.Zj.length:=by have:=hok.2.2.2.2;rw [if_pos hleaf] at this;exact this.1
   have hml:(mput (Zaq n) key val).length≤5:=by have:=Zuy (l:=Zaq n) (key:=key) (val:=val);have:=Ze2 hok hleaf;omega
   have hhalf:=ZpD w (Za2 (mput (Zaq n) key val)) hsw (by simp [Za2];omega) (fun _=>by simp [Za2]) (fun h=>by simp [Za2] at h);cases hs:putS w (Zat (Za2 (mput (Zaq n) key val))) with
   |none=>
    rw [hs] at hhalf;obtain ⟨w1,kk1,hhalf⟩:=hhalf;have ha:ZdH w (Zat (Za2 (mput (Zaq n) key val))) page=none:=by rw [ZdH,hs]
    rw [ha];refine ⟨w1,kk1,?_⟩;unfold PutC;refine cof Go.Proofs.Tryz.func125 hr125 hl125 [true,false,false,false,false] ?_;simp -implicitDefEqProofs only [go_sem,Z8,Zan];refine Zal w.Zc page (by have:=hsw.1.1;omega) (by have:=hsw.1.2;omega) rfl ?_;simp -implicitDefEqProofs only [go_sem];refine Zas (ZU w.Zc page) (by have:=Zay hw.disk page;omega) rfl ?_;rw [hrn];simp only [ZaE];simp -implicitDefEqProofs only [go_sem,d8,hleaf];repeat ((first|refine rq ?_|fail);simp -implicitDefEqProofs only [go_sem,d8,hleaf])
    refine Znq n key val hvl (by omega) (by simp -implicitDefEqProofs only [go_sem,Z1.cells_eq,hleaf];first|done|rfl) ?_;simp -implicitDefEqProofs only [go_sem,Z1.cells_eq];repeat ((first|refine rq ?_|fail);simp -implicitDefEqProofs only [go_sem,Z1.cells_eq])
    refine Za3 true (xs:=[.agg (Za2 (mput (Zaq n) key val)).cells]) hhalf rfl rfl rfl (by simp -implicitDefEqProofs only [go_sem,Z1.cells_eq];first|done|rfl) rfl rfl rfl rfl (.inl rfl) ?_;simp -implicitDefEqProofs only [go_sem,Z8,Zan];repeat ((first|refine rq ?_|fail);simp -implicitDefEqProofs only [go_sem,Z8,Zan])
   |some r=>
    obtain ⟨w1,kk1⟩:=r;rw [hs] at hhalf;obtain ⟨hw1,_,_⟩:=ZiW hw hs;have hsw1:=hw1.smallW hB;have hde:=ZcL (p:=page) hw1;have ha:ZdH w (Zat (Za2 (mput (Zaq n) key val))) page=some (ZbP w1 page,kk1):=by rw [ZdH,hs]
    rw [ha];simp only [Option.map_some];unfold PutC;refine cof Go.Proofs.Tryz.func125 hr125 hl125 [true,false,false,false,false] ?_;simp -implicitDefEqProofs only [go_sem,Z8,Zan];refine Zal w.Zc page (by have:=hsw.1.1;omega) (by have:=hsw.1.2;omega) rfl ?_;simp -implicitDefEqProofs only [go_sem];refine Zas (ZU w.Zc page) (by have:=Zay hw.disk page;omega) rfl ?_;rw [hrn];simp only [ZaE];simp -implicitDefEqProofs only [go_sem,d8,hleaf];repeat ((first|refine rq ?_|fail);simp -implicitDefEqProofs only [go_sem,d8,hleaf])
    refine Znq n key val hvl (by omega) (by simp -implicitDefEqProofs only [go_sem,Z1.cells_eq,hleaf];first|done|rfl) ?_;simp -implicitDefEqProofs only [go_sem,Z1.cells_eq];repeat ((first|refine rq ?_|fail);simp -implicitDefEqProofs only [go_sem,Z1.cells_eq])
    refine Za3 true (xs:=[.agg (Za2 (mput (Zaq n) key val)).cells]) hhalf rfl rfl rfl (by simp -implicitDefEqProofs only [go_sem,Z1.cells_eq];first|done|rfl) rfl rfl rfl rfl (.inl rfl) ?_;simp -implicitDefEqProofs only [go_sem,Z8,Zan];repeat ((first|refine rq ?_|fail);simp -implicitDefEqProofs only [go_sem,Z8,Zan])
    refine Zbp w1 page hsw1 (by simp -implicitDefEqProofs only [go_sem,ZS.cells_eq];first|done|rfl) ?_;rw [hde];simp -implicitDefEqProofs only [go_sem,ZS.cells_eq,Z8,Zan];repeat ((first|refine rq ?_|fail);simp -implicitDefEqProofs only [go_sem,ZS.cells_eq,Z8,Zan])
  |succ h=>
   obtain ⟨hleaf,ks,h4,h5,h6,h7,h8,h9⟩:=hcand;have hkl:n.Zk.length=n.Zj.length:=by have:=hok.2.2.2.2;rw [if_neg (by rw [hleaf];simp)] at this;exact this.1
   have hpu:putU (f+1) w page key val=match putU f w (n.Zk.getD (Zij n.Zj key) 0) key val with
     |none=>none
     |some (w1,kk,dp)=>(ZdH w1 (Zat (Z0 (ZeN (n.Zj.zip n.Zk) (Zij n.Zj key) kk))) page).map fun r=>(r.1,r.2,dp+1):=by
    rw [putU,hrd];simp only [hleaf,Bool.false_eq_true,if_false];rfl
   rw [hpu];have hks:ks≠ []:=by
    have:=hok.1;rw [h4,List.length_map] at this;intro e;rw [e] at this;simp at this
   obtain ⟨pre,s,post,e1,e2,e3,e4⟩:=Zk2 (key:=key) hks;rw [←h4] at e2;have hs:s∈ks:=by rw [e1];simp
   rw [hpg,h9] at hn hl;obtain ⟨n1,n2⟩:=List.nodup_cons.1 hn;have hsp:∀q∈s.pages,q∈ks.flatMap Sub.pages:=fun q hq=>List.mem_flatMap.2 ⟨s,hs,hq⟩
   have hplen:pre.length<n.Zj.length:=by rw [h4,e1];simp
   obtain ⟨kid,hkid⟩:∃kid,n.Zk[pre.length]? =some kid:=⟨_,List.getElem?_eq_getElem (by omega)⟩;have hkd:n.Zk.getD pre.length 0=kid:=by simp [List.getD,hkid]
   have hkp:kid=s.page:=by
    have:n.Zk[pre.length]? =some s.page:=by rw [h5,e1];simp
    rw [this] at hkid;simpa using hkid.symm
   have hpi:Zbe n.Zj key= -1∧pre.length=0∨Zbe n.Zj key=(pre.length:Int):=by
    unfold Zij at e2;rcases Zdg n.Zj key with ⟨g,_⟩|⟨a,b,c,_,g,_,_⟩
    ·left;rw [g] at e2;exact ⟨g,by rw [←e2];rfl⟩
    ·right;rw [g] at e2 ⊢;omega
   have hih:=ih h w s.page s.fst s.pairs s.pages (by omega) hw (h6 s hs) (ZbA n2 hs) (fun q hq=>hl q (List.mem_cons_of_mem _ (hsp q hq)));rw [e2,hkd,hkp];have e8:(8:Int) - ((f+1:Nat):Int)+1=8 - (f:Int):=by omega
   have hpn:=hok.2.1;have hlk:=fun m:List (List UInt8)=> @ZdT m
   rcases hpi with ⟨g,g0⟩|g
   ·rw [g0] at hkid;have da:decide ((-1:Int)<0)=true:=rfl;cases hu:putU f w s.page key val with
    |none=>
     rw [hu] at hih;obtain ⟨w1,kk1,hih⟩:=hih;refine ⟨w1,kk1,?_⟩;unfold PutC at hih ⊢;refine cof Go.Proofs.Tryz.func125 hr125 hl125 [true,false,false,false,false] ?_;simp -implicitDefEqProofs only [go_sem,Z8,Zan];refine Zal w.Zc page (by have:=hsw.1.1;omega) (by have:=hsw.1.2;omega) rfl ?_;simp -implicitDefEqProofs only [go_sem];refine Zas (ZU w.Zc page) (by have:=Zay hw.disk page;omega) rfl ?_;rw [hrn];simp only [ZaE];simp -implicitDefEqProofs only [go_sem,d8,hleaf];repeat ((first|refine rq ?_|fail);simp -implicitDefEqProofs only [go_sem,d8,hleaf])
     refine ZaT n key (by simp only [LEN];omega) (ls:=[]) (by simp -implicitDefEqProofs only [go_sem,Z1.cells_eq,hleaf];first|done|rfl) ?_;rw [g];simp -implicitDefEqProofs only [go_sem,da];repeat ((first|refine rq ?_|fail);simp -implicitDefEqProofs only [go_sem,da,e8,ZO hkid])
     have e8w:IntKind.i64.wrap (8 - (f:Int))=8 - (f:Int):=Zad (by omega) (by omega);refine Za3 false (xs:=[.int .i64 s.page,.int .i64 (8 - (f:Int)),.str key,.str val]) hih rfl rfl rfl (by simp -implicitDefEqProofs only [go_sem,hkp,e8w];first|done|rfl) rfl rfl rfl rfl (.inr (.inl rfl)) ?_;simp -implicitDefEqProofs only [go_sem,Z8,Zan];repeat ((first|refine rq ?_|fail);simp -implicitDefEqProofs only [go_sem,Z8,Zan])
    |some r=>
     obtain ⟨w1,kk1,dp⟩:=r;rw [hu] at hih;simp only at hih ⊢;obtain ⟨hdp,subs1,hkk,r1⟩:=Zfp hw (h6 s hs) (ZbA n2 hs) (fun q hq=>hl q (List.mem_cons_of_mem _ (hsp q hq))) hu;obtain ⟨s1,rest,hsub,hf1,hrl⟩:=r1.head;have hsw1:=r1.ok.smallW hB;have hkk1:kk1=(s1.key,s1.page)::rest.map ZaZ:=by rw [hkk,hsub];rfl
     have hkl1:kk1.length≤2:=by rw [hkk1];simp;omega
     have hel:(n.Zj.zip n.Zk).length=n.Zj.length:=by rw [List.length_zip];omega
     have hjl:=ZeL (es:=n.Zj.zip n.Zk) (at_:=pre.length) (kk:=kk1) (Nat.le_refl _);rw [ZeM (by omega)] at hjl;have hnk:(Z0 (ZeN (n.Zj.zip n.Zk) pre.length kk1)).Zj.length≤100:=by simp [Z0];omega
     have hhalf:=ZpD w1 (Z0 (ZeN (n.Zj.zip n.Zk) pre.length kk1)) hsw1 hnk (fun h=>by simp [Z0] at h) (fun _=>by simp [Z0]);generalize hn':Z0 (ZeN (n.Zj.zip n.Zk) pre.length kk1)=n' at hhalf ⊢;have hnK:n'.Zj=(ZeN (n.Zj.zip n.Zk) pre.length kk1).map (·.1):=by rw [←hn'];rfl
     have hnI:n'.Zk=(ZeN (n.Zj.zip n.Zk) pre.length kk1).map (·.2):=by rw [←hn'];rfl
     have hnV:n'.ZJ=[]∧n'.Zn=false:=by rw [←hn'];exact ⟨rfl,rfl⟩
     cases hs2:putS w1 (Zat n') with
     |none=>
      rw [hs2] at hhalf;obtain ⟨w2,kk2,hhalf⟩:=hhalf;have ha:ZdH w1 (Zat n') page=none:=by rw [ZdH,hs2]
      rw [ha];refine ⟨w2,kk2,?_⟩;unfold PutC at hih ⊢;refine cof Go.Proofs.Tryz.func125 hr125 hl125 [true,false,false,false,false] ?_;simp -implicitDefEqProofs only [go_sem,Z8,Zan];refine Zal w.Zc page (by have:=hsw.1.1;omega) (by have:=hsw.1.2;omega) rfl ?_;simp -implicitDefEqProofs only [go_sem];refine Zas (ZU w.Zc page) (by have:=Zay hw.disk page;omega) rfl ?_;rw [hrn];simp only [ZaE];simp -implicitDefEqProofs only [go_sem,d8,hleaf];repeat ((first|refine rq ?_|fail);simp -implicitDefEqProofs only [go_sem,d8,hleaf])
      refine ZaT n key (by simp only [LEN];omega) (ls:=[]) (by simp -implicitDefEqProofs only [go_sem,Z1.cells_eq,hleaf];first|done|rfl) ?_;rw [g];simp -implicitDefEqProofs only [go_sem,da];repeat ((first|refine rq ?_|fail);simp -implicitDefEqProofs only [go_sem,da,e8,ZO hkid])
      have e8w:IntKind.i64.wrap (8 - (f:Int))=8 - (f:Int):=Zad (by omega) (by omega);refine Za3 false (xs:=[.int .i64 s.page,.int .i64 (8 - (f:Int)),.str key,.str val]) hih rfl rfl rfl (by simp -implicitDefEqProofs only [go_sem,hkp,e8w];first|done|rfl) rfl rfl rfl rfl (.inr (.inl rfl)) ?_;simp -implicitDefEqProofs only [go_sem,Z8,Zan];repeat ((first|refine rq ?_|fail);simp -implicitDefEqProofs only [go_sem,Z8,Zan])
      have hj0:ZbS (n.Zj.zip n.Zk) pre.length kk1 0=[]:=by simp [ZbS]
      refine ZY (α:=Nat) (fun i=>⟨[(0,.ref 0 0),(1,.d (.int .i64 page)),(13,.ref 1 0),(15,.ref 2 0),(16,.d (.int .i64 (0))),(17,.own 6 0 kk1.length),(18,.own 7 0 kk1.length),(20,.d (.int .i64 i))],[(0,some (.box [.d (.sl (strs w1.Zc.Zv)),.d (.sl (Zae w1.Zc.Zm)),.d (.int .i64 w1.Zs),.d (.sl (ints w1.ZH)),.d (.sl (ints w1.Zg)),.d (.sl (ints w1.Zf))])),(1,some (.box [.d (.bool false),.d (.sl (strs n.Zj)),.d (.sl (strs n.ZJ)),.d (.sl (ints n.Zk))])),(2,some (.box [.d (.bool false),.own 3 0 (ZbS (n.Zj.zip n.Zk) pre.length kk1 i).length,.own 4 0 0,.own 5 0 (ZbS (n.Zj.zip n.Zk) pre.length kk1 i).length])),(3,some (.arr 1 (strs ((ZbS (n.Zj.zip n.Zk) pre.length kk1 i).map (·.1))))),(4,some (.arr 1 [])),(5,some (.arr 1 (ints ((ZbS (n.Zj.zip n.Zk) pre.length kk1 i).map (·.2))))),(6,some (.arr 1 (strs (kk1.map (·.1))))),(7,some (.arr 1 (ints (kk1.map (·.2)))))]⟩)
       (fun i=>i≤n.Zj.length) (fun i=>n.Zj.length - i) 0 (by rw [hj0];rfl) (Nat.zero_le _) ?_
      rintro i i1;have hjle:=ZeL (es:=n.Zj.zip n.Zk) (at_:=pre.length) (kk:=kk1) (i:=i) (by omega);simp -implicitDefEqProofs only [go_sem];refine fork (fun h55=>?_) (fun h55=>?_)
      ·obtain ⟨ki,hki⟩:=Z3 h55;obtain ⟨ci,hci⟩:∃ci,n.Zk[i]? =some ci:=⟨_,List.getElem?_eq_getElem (by omega)⟩;have hes:=Zfg hki hci;by_cases hia:i=pre.length
       ·subst hia;have dia:decide (((pre.length:Nat):Int)=(0))=true:=decide_eq_true (by omega);have hJ:=Zi2 (es:=n.Zj.zip n.Zk) (at_:=pre.length) (kk:=kk1);have hged:((n.Zj.zip n.Zk).getD pre.length ([],0)).1=ki:=by rw [List.getD,hes];rfl
        have hhd:kk1.headD ([],0)=(s1.key,s1.page):=by rw [hkk1];rfl
        rw [hged,hhd] at hJ;have hk0:lget (strs (kk1.map (·.1))) 0=[.str s1.key]:=by rw [hkk1];rfl
        have hkpos:0<kk1.length:=by rw [hkk1];simp
        have hsnd:kk1.map (·.2)=s1.page::(kk1.drop 1).map (·.2):=by rw [hkk1];rfl
        generalize hJi:ZbS (n.Zj.zip n.Zk) pre.length kk1 pre.length=J at*;cases hlt:Zax s1.key ki
        ·have hkm:kmin ki s1.key=ki:=if_neg (by unfold klt;rw [hlt];simp);rw [hkm] at hJ;simp -implicitDefEqProofs only [go_sem,dia,ZM hki,ZO hci,hk0,hlt,hJi];repeat ((first|refine rq ?_|refine way (fun h=>absurd h (by simp)) (fun _=>?_)|refine way (fun _=>?_) (fun h=>absurd h (by simp))|refine req ⟨by omega,Zfl,Zig⟩ ?_|refine req ⟨by omega,ZfD,Zit⟩ ?_|fail);simp -implicitDefEqProofs only [go_sem,dia,ZM hki,ZO hci,hk0,hlt,hJi,ZbZ,Zb0,Zic,Zcw,Zcp,Zde,Za7,List.length_map,List.length_drop])
         rw [ZV (by simp only [LEN];omega)];refine ZP (pre.length+1) ?_ (by omega) (by omega);have hL1:J.length+1+(kk1.length - 1)=J.length+kk1.length:=by omega
         have hL2:J.length+(kk1.length - 1+1)=J.length+kk1.length:=by omega
         simp only [hJ,Zdf,Zdm,List.map_append,List.map_cons,←hsnd,List.length_append,List.length_cons,List.length_drop,hL1,hL2]
        ·have hkm:kmin ki s1.key=s1.key:=if_pos hlt;rw [hkm] at hJ;simp -implicitDefEqProofs only [go_sem,dia,ZM hki,ZO hci,hk0,hlt,hJi];repeat ((first|refine rq ?_|refine way (fun h=>absurd h (by simp)) (fun _=>?_)|refine way (fun _=>?_) (fun h=>absurd h (by simp))|refine req ⟨by omega,Zfl,Zig⟩ ?_|refine req ⟨by omega,ZfD,Zit⟩ ?_|fail);simp -implicitDefEqProofs only [go_sem,dia,ZM hki,ZO hci,hk0,hlt,hJi,ZbZ,Zb0,Zic,Zcw,Zcp,Zde,Za7,List.length_map,List.length_drop])
         rw [ZV (by simp only [LEN];omega)];refine ZP (pre.length+1) ?_ (by omega) (by omega);have hL1:J.length+1+(kk1.length - 1)=J.length+kk1.length:=by omega
         have hL2:J.length+(kk1.length - 1+1)=J.length+kk1.length:=by omega
         simp only [hJ,Zdf,Zdm,List.map_append,List.map_cons,←hsnd,List.length_append,List.length_cons,List.length_drop,hL1,hL2]
       ·have dia:decide ((i:Int)=(0))=false:=decide_eq_false (by omega);have hJ:=Zi1 (kk:=kk1) hes hia;simp -implicitDefEqProofs only [go_sem,dia,ZM hki,ZO hci];repeat ((first|refine rq ?_|fail);simp -implicitDefEqProofs only [go_sem,dia,ZM hki,ZO hci,ZbZ,Zb0])
        rw [ZV (by simp only [LEN];omega)];refine ZP (i+1) ?_ (by omega) (by omega);simp [hJ]
      ·have hi:i=(n.Zj.zip n.Zk).length:=by omega
       rw [hi,ZeM (by omega)];generalize hE:ZeN (n.Zj.zip n.Zk) pre.length kk1=E at*;simp -implicitDefEqProofs only [go_sem];repeat ((first|refine rq ?_|fail);simp -implicitDefEqProofs only [go_sem])
       refine Za3 true (xs:=[.agg n'.cells]) hhalf rfl rfl rfl (by simp -implicitDefEqProofs only [go_sem,Z1.cells_eq,hnK,hnI,hnV,ZiR,Zcp];first|done|rfl) rfl rfl rfl rfl (.inl rfl) ?_;simp -implicitDefEqProofs only [go_sem,Z8,Zan];repeat ((first|refine rq ?_|fail);simp -implicitDefEqProofs only [go_sem,Z8,Zan])
       trace_state
     |some r2=>
      obtain ⟨w2,kk2⟩:=r2;rw [hs2] at hhalf;simp only at hhalf;obtain ⟨hw2,_,_⟩:=ZiW r1.ok hs2;have hsw2:=hw2.smallW hB;have hde:=ZcL (p:=page) hw2;have ha:ZdH w1 (Zat n') page=some (ZbP w2 page,kk2):=by rw [ZdH,hs2]
      rw [ha];simp only [Option.map_some];unfold PutC at hih ⊢;refine cof Go.Proofs.Tryz.func125 hr125 hl125 [true,false,false,false,false] ?_;simp -implicitDefEqProofs only [go_sem,Z8,Zan];refine Zal w.Zc page (by have:=hsw.1.1;omega) (by have:=hsw.1.2;omega) rfl ?_;simp -implicitDefEqProofs only [go_sem];refine Zas (ZU w.Zc page) (by have:=Zay hw.disk page;omega) rfl ?_;rw [hrn];simp only [ZaE];simp -implicitDefEqProofs only [go_sem,d8,hleaf];repeat ((first|refine rq ?_|fail);simp -implicitDefEqProofs only [go_sem,d8,hleaf])
      refine ZaT n key (by simp only [LEN];omega) (ls:=[]) (by simp -implicitDefEqProofs only [go_sem,Z1.cells_eq,hleaf];first|done|rfl) ?_;rw [g];simp -implicitDefEqProofs only [go_sem,da];repeat ((first|refine rq ?_|fail);simp -implicitDefEqProofs only [go_sem,da,e8,ZO hkid])
      have e8w:IntKind.i64.wrap (8 - (f:Int))=8 - (f:Int):=Zad (by omega) (by omega);refine Za3 false (xs:=[.int .i64 s.page,.int .i64 (8 - (f:Int)),.str key,.str val]) hih rfl rfl rfl (by simp -implicitDefEqProofs only [go_sem,hkp,e8w];first|done|rfl) rfl rfl rfl rfl (.inr (.inl rfl)) ?_;simp -implicitDefEqProofs only [go_sem,Z8,Zan];repeat ((first|refine rq ?_|fail);simp -implicitDefEqProofs only [go_sem,Z8,Zan])
      have hj0:ZbS (n.Zj.zip n.Zk) pre.length kk1 0=[]:=by simp [ZbS]
      refine ZY (α:=Nat) (fun i=>⟨[(0,.ref 0 0),(1,.d (.int .i64 page)),(13,.ref 1 0),(15,.ref 2 0),(16,.d (.int .i64 (0))),(17,.own 6 0 kk1.length),(18,.own 7 0 kk1.length),(20,.d (.int .i64 i))],[(0,some (.box [.d (.sl (strs w1.Zc.Zv)),.d (.sl (Zae w1.Zc.Zm)),.d (.int .i64 w1.Zs),.d (.sl (ints w1.ZH)),.d (.sl (ints w1.Zg)),.d (.sl (ints w1.Zf))])),(1,some (.box [.d (.bool false),.d (.sl (strs n.Zj)),.d (.sl (strs n.ZJ)),.d (.sl (ints n.Zk))])),(2,some (.box [.d (.bool false),.own 3 0 (ZbS (n.Zj.zip n.Zk) pre.length kk1 i).length,.own 4 0 0,.own 5 0 (ZbS (n.Zj.zip n.Zk) pre.length kk1 i).length])),(3,some (.arr 1 (strs ((ZbS (n.Zj.zip n.Zk) pre.length kk1 i).map (·.1))))),(4,some (.arr 1 [])),(5,some (.arr 1 (ints ((ZbS (n.Zj.zip n.Zk) pre.length kk1 i).map (·.2))))),(6,some (.arr 1 (strs (kk1.map (·.1))))),(7,some (.arr 1 (ints (kk1.map (·.2)))))]⟩)
       (fun i=>i≤n.Zj.length) (fun i=>n.Zj.length - i) 0 (by rw [hj0];rfl) (Nat.zero_le _) ?_
      rintro i i1;have hjle:=ZeL (es:=n.Zj.zip n.Zk) (at_:=pre.length) (kk:=kk1) (i:=i) (by omega);simp -implicitDefEqProofs only [go_sem];refine fork (fun h55=>?_) (fun h55=>?_)
      ·obtain ⟨ki,hki⟩:=Z3 h55;obtain ⟨ci,hci⟩:∃ci,n.Zk[i]? =some ci:=⟨_,List.getElem?_eq_getElem (by omega)⟩;have hes:=Zfg hki hci;by_cases hia:i=pre.length
       ·subst hia;have dia:decide (((pre.length:Nat):Int)=(0))=true:=decide_eq_true (by omega);have hJ:=Zi2 (es:=n.Zj.zip n.Zk) (at_:=pre.length) (kk:=kk1);have hged:((n.Zj.zip n.Zk).getD pre.length ([],0)).1=ki:=by rw [List.getD,hes];rfl
        have hhd:kk1.headD ([],0)=(s1.key,s1.page):=by rw [hkk1];rfl
        rw [hged,hhd] at hJ;have hk0:lget (strs (kk1.map (·.1))) 0=[.str s1.key]:=by rw [hkk1];rfl
        have hkpos:0<kk1.length:=by rw [hkk1];simp
        have hsnd:kk1.map (·.2)=s1.page::(kk1.drop 1).map (·.2):=by rw [hkk1];rfl
        generalize hJi:ZbS (n.Zj.zip n.Zk) pre.length kk1 pre.length=J at*;cases hlt:Zax s1.key ki
        ·have hkm:kmin ki s1.key=ki:=if_neg (by unfold klt;rw [hlt];simp);rw [hkm] at hJ;simp -implicitDefEqProofs only [go_sem,dia,ZM hki,ZO hci,hk0,hlt,hJi];repeat ((first|refine rq ?_|refine way (fun h=>absurd h (by simp)) (fun _=>?_)|refine way (fun _=>?_) (fun h=>absurd h (by simp))|refine req ⟨by omega,Zfl,Zig⟩ ?_|refine req ⟨by omega,ZfD,Zit⟩ ?_|fail);simp -implicitDefEqProofs only [go_sem,dia,ZM hki,ZO hci,hk0,hlt,hJi,ZbZ,Zb0,Zic,Zcw,Zcp,Zde,Za7,List.length_map,List.length_drop])
         rw [ZV (by simp only [LEN];omega)];refine ZP (pre.length+1) ?_ (by omega) (by omega);have hL1:J.length+1+(kk1.length - 1)=J.length+kk1.length:=by omega
         have hL2:J.length+(kk1.length - 1+1)=J.length+kk1.length:=by omega
         simp only [hJ,Zdf,Zdm,List.map_append,List.map_cons,←hsnd,List.length_append,List.length_cons,List.length_drop,hL1,hL2]
        ·have hkm:kmin ki s1.key=s1.key:=if_pos hlt;rw [hkm] at hJ;simp -implicitDefEqProofs only [go_sem,dia,ZM hki,ZO hci,hk0,hlt,hJi];repeat ((first|refine rq ?_|refine way (fun h=>absurd h (by simp)) (fun _=>?_)|refine way (fun _=>?_) (fun h=>absurd h (by simp))|refine req ⟨by omega,Zfl,Zig⟩ ?_|refine req ⟨by omega,ZfD,Zit⟩ ?_|fail);simp -implicitDefEqProofs only [go_sem,dia,ZM hki,ZO hci,hk0,hlt,hJi,ZbZ,Zb0,Zic,Zcw,Zcp,Zde,Za7,List.length_map,List.length_drop])
         rw [ZV (by simp only [LEN];omega)];refine ZP (pre.length+1) ?_ (by omega) (by omega);have hL1:J.length+1+(kk1.length - 1)=J.length+kk1.length:=by omega
         have hL2:J.length+(kk1.length - 1+1)=J.length+kk1.length:=by omega
         simp only [hJ,Zdf,Zdm,List.map_append,List.map_cons,←hsnd,List.length_append,List.length_cons,List.length_drop,hL1,hL2]
       ·have dia:decide ((i:Int)=(0))=false:=decide_eq_false (by omega);have hJ:=Zi1 (kk:=kk1) hes hia;simp -implicitDefEqProofs only [go_sem,dia,ZM hki,ZO hci];repeat ((first|refine rq ?_|fail);simp -implicitDefEqProofs only [go_sem,dia,ZM hki,ZO hci,ZbZ,Zb0])
        rw [ZV (by simp only [LEN];omega)];refine ZP (i+1) ?_ (by omega) (by omega);simp [hJ]
      ·have hi:i=(n.Zj.zip n.Zk).length:=by omega
       rw [hi,ZeM (by omega)];generalize hE:ZeN (n.Zj.zip n.Zk) pre.length kk1=E at*;simp -implicitDefEqProofs only [go_sem];repeat ((first|refine rq ?_|fail);simp -implicitDefEqProofs only [go_sem])
       refine Za3 true (xs:=[.agg n'.cells]) hhalf rfl rfl rfl (by simp -implicitDefEqProofs only [go_sem,Z1.cells_eq,hnK,hnI,hnV,ZiR,Zcp];first|done|rfl) rfl rfl rfl rfl (.inl rfl) ?_;simp -implicitDefEqProofs only [go_sem,Z8,Zan];repeat ((first|refine rq ?_|fail);simp -implicitDefEqProofs only [go_sem,Z8,Zan])
       refine Zbp w2 page hsw2 (by simp -implicitDefEqProofs only [go_sem,ZS.cells_eq];first|done|rfl) ?_;rw [hde];simp -implicitDefEqProofs only [go_sem,ZS.cells_eq,Z8,Zan];repeat ((first|refine rq ?_|fail);simp -implicitDefEqProofs only [go_sem,ZS.cells_eq,Z8,Zan])
       trace_state
   ·have da:decide ((pre.length:Int)<0)=false:=decide_eq_false (by omega);cases hu:putU f w s.page key val with
    |none=>
     rw [hu] at hih;obtain ⟨w1,kk1,hih⟩:=hih;refine ⟨w1,kk1,?_⟩;unfold PutC at hih ⊢;refine cof Go.Proofs.Tryz.func125 hr125 hl125 [true,false,false,false,false] ?_;simp -implicitDefEqProofs only [go_sem,Z8,Zan];refine Zal w.Zc page (by have:=hsw.1.1;omega) (by have:=hsw.1.2;omega) rfl ?_;simp -implicitDefEqProofs only [go_sem];refine Zas (ZU w.Zc page) (by have:=Zay hw.disk page;omega) rfl ?_;rw [hrn];simp only [ZaE];simp -implicitDefEqProofs only [go_sem,d8,hleaf];repeat ((first|refine rq ?_|fail);simp -implicitDefEqProofs only [go_sem,d8,hleaf])
     refine ZaT n key (by simp only [LEN];omega) (ls:=[]) (by simp -implicitDefEqProofs only [go_sem,Z1.cells_eq,hleaf];first|done|rfl) ?_;rw [g];simp -implicitDefEqProofs only [go_sem,da];repeat ((first|refine rq ?_|fail);simp -implicitDefEqProofs only [go_sem,da,e8,ZO hkid])
     have e8w:IntKind.i64.wrap (8 - (f:Int))=8 - (f:Int):=Zad (by omega) (by omega);refine Za3 false (xs:=[.int .i64 s.page,.int .i64 (8 - (f:Int)),.str key,.str val]) hih rfl rfl rfl (by simp -implicitDefEqProofs only [go_sem,hkp,e8w];first|done|rfl) rfl rfl rfl rfl (.inr (.inl rfl)) ?_;simp -implicitDefEqProofs only [go_sem,Z8,Zan];repeat ((first|refine rq ?_|fail);simp -implicitDefEqProofs only [go_sem,Z8,Zan])
    |some r=>
     obtain ⟨w1,kk1,dp⟩:=r;rw [hu] at hih;simp only at hih ⊢;obtain ⟨hdp,subs1,hkk,r1⟩:=Zfp hw (h6 s hs) (ZbA n2 hs) (fun q hq=>hl q (List.mem_cons_of_mem _ (hsp q hq))) hu;obtain ⟨s1,rest,hsub,hf1,hrl⟩:=r1.head;have hsw1:=r1.ok.smallW hB;have hkk1:kk1=(s1.key,s1.page)::rest.map ZaZ:=by rw [hkk,hsub];rfl
     have hkl1:kk1.length≤2:=by rw [hkk1];simp;omega
     have hel:(n.Zj.zip n.Zk).length=n.Zj.length:=by rw [List.length_zip];omega
     have hjl:=ZeL (es:=n.Zj.zip n.Zk) (at_:=pre.length) (kk:=kk1) (Nat.le_refl _);rw [ZeM (by omega)] at hjl;have hnk:(Z0 (ZeN (n.Zj.zip n.Zk) pre.length kk1)).Zj.length≤100:=by simp [Z0];omega
     have hhalf:=ZpD w1 (Z0 (ZeN (n.Zj.zip n.Zk) pre.length kk1)) hsw1 hnk (fun h=>by simp [Z0] at h) (fun _=>by simp [Z0]);generalize hn':Z0 (ZeN (n.Zj.zip n.Zk) pre.length kk1)=n' at hhalf ⊢;have hnK:n'.Zj=(ZeN (n.Zj.zip n.Zk) pre.length kk1).map (·.1):=by rw [←hn'];rfl
     have hnI:n'.Zk=(ZeN (n.Zj.zip n.Zk) pre.length kk1).map (·.2):=by rw [←hn'];rfl
     have hnV:n'.ZJ=[]∧n'.Zn=false:=by rw [←hn'];exact ⟨rfl,rfl⟩
     cases hs2:putS w1 (Zat n') with
     |none=>
      rw [hs2] at hhalf;obtain ⟨w2,kk2,hhalf⟩:=hhalf;have ha:ZdH w1 (Zat n') page=none:=by rw [ZdH,hs2]
      rw [ha];refine ⟨w2,kk2,?_⟩;unfold PutC at hih ⊢;refine cof Go.Proofs.Tryz.func125 hr125 hl125 [true,false,false,false,false] ?_;simp -implicitDefEqProofs only [go_sem,Z8,Zan];refine Zal w.Zc page (by have:=hsw.1.1;omega) (by have:=hsw.1.2;omega) rfl ?_;simp -implicitDefEqProofs only [go_sem];refine Zas (ZU w.Zc page) (by have:=Zay hw.disk page;omega) rfl ?_;rw [hrn];simp only [ZaE];simp -implicitDefEqProofs only [go_sem,d8,hleaf];repeat ((first|refine rq ?_|fail);simp -implicitDefEqProofs only [go_sem,d8,hleaf])
      refine ZaT n key (by simp only [LEN];omega) (ls:=[]) (by simp -implicitDefEqProofs only [go_sem,Z1.cells_eq,hleaf];first|done|rfl) ?_;rw [g];simp -implicitDefEqProofs only [go_sem,da];repeat ((first|refine rq ?_|fail);simp -implicitDefEqProofs only [go_sem,da,e8,ZO hkid])
      have e8w:IntKind.i64.wrap (8 - (f:Int))=8 - (f:Int):=Zad (by omega) (by omega);refine Za3 false (xs:=[.int .i64 s.page,.int .i64 (8 - (f:Int)),.str key,.str val]) hih rfl rfl rfl (by simp -implicitDefEqProofs only [go_sem,hkp,e8w];first|done|rfl) rfl rfl rfl rfl (.inr (.inl rfl)) ?_;simp -implicitDefEqProofs only [go_sem,Z8,Zan];repeat ((first|refine rq ?_|fail);simp -implicitDefEqProofs only [go_sem,Z8,Zan])
      have hj0:ZbS (n.Zj.zip n.Zk) pre.length kk1 0=[]:=by simp [ZbS]
      refine ZY (α:=Nat) (fun i=>⟨[(0,.ref 0 0),(1,.d (.int .i64 page)),(13,.ref 1 0),(15,.ref 2 0),(16,.d (.int .i64 ((pre.length:Int)))),(17,.own 6 0 kk1.length),(18,.own 7 0 kk1.length),(20,.d (.int .i64 i))],[(0,some (.box [.d (.sl (strs w1.Zc.Zv)),.d (.sl (Zae w1.Zc.Zm)),.d (.int .i64 w1.Zs),.d (.sl (ints w1.ZH)),.d (.sl (ints w1.Zg)),.d (.sl (ints w1.Zf))])),(1,some (.box [.d (.bool false),.d (.sl (strs n.Zj)),.d (.sl (strs n.ZJ)),.d (.sl (ints n.Zk))])),(2,some (.box [.d (.bool false),.own 3 0 (ZbS (n.Zj.zip n.Zk) pre.length kk1 i).length,.own 4 0 0,.own 5 0 (ZbS (n.Zj.zip n.Zk) pre.length kk1 i).length])),(3,some (.arr 1 (strs ((ZbS (n.Zj.zip n.Zk) pre.length kk1 i).map (·.1))))),(4,some (.arr 1 [])),(5,some (.arr 1 (ints ((ZbS (n.Zj.zip n.Zk) pre.length kk1 i).map (·.2))))),(6,some (.arr 1 (strs (kk1.map (·.1))))),(7,some (.arr 1 (ints (kk1.map (·.2)))))]⟩)
       (fun i=>i≤n.Zj.length) (fun i=>n.Zj.length - i) 0 (by rw [hj0];rfl) (Nat.zero_le _) ?_
      rintro i i1;have hjle:=ZeL (es:=n.Zj.zip n.Zk) (at_:=pre.length) (kk:=kk1) (i:=i) (by omega);simp -implicitDefEqProofs only [go_sem];refine fork (fun h55=>?_) (fun h55=>?_)
      ·obtain ⟨ki,hki⟩:=Z3 h55;obtain ⟨ci,hci⟩:∃ci,n.Zk[i]? =some ci:=⟨_,List.getElem?_eq_getElem (by omega)⟩;have hes:=Zfg hki hci;by_cases hia:i=pre.length
       ·subst hia;have dia:decide (((pre.length:Nat):Int)=((pre.length:Int)))=true:=decide_eq_true (by omega);have hJ:=Zi2 (es:=n.Zj.zip n.Zk) (at_:=pre.length) (kk:=kk1);have hged:((n.Zj.zip n.Zk).getD pre.length ([],0)).1=ki:=by rw [List.getD,hes];rfl
        have hhd:kk1.headD ([],0)=(s1.key,s1.page):=by rw [hkk1];rfl
        rw [hged,hhd] at hJ;have hk0:lget (strs (kk1.map (·.1))) 0=[.str s1.key]:=by rw [hkk1];rfl
        have hkpos:0<kk1.length:=by rw [hkk1];simp
        have hsnd:kk1.map (·.2)=s1.page::(kk1.drop 1).map (·.2):=by rw [hkk1];rfl
        generalize hJi:ZbS (n.Zj.zip n.Zk) pre.length kk1 pre.length=J at*;cases hlt:Zax s1.key ki
        ·have hkm:kmin ki s1.key=ki:=if_neg (by unfold klt;rw [hlt];simp);rw [hkm] at hJ;simp -implicitDefEqProofs only [go_sem,dia,ZM hki,ZO hci,hk0,hlt,hJi];repeat ((first|refine rq ?_|refine way (fun h=>absurd h (by simp)) (fun _=>?_)|refine way (fun _=>?_) (fun h=>absurd h (by simp))|refine req ⟨by omega,Zfl,Zig⟩ ?_|refine req ⟨by omega,ZfD,Zit⟩ ?_|fail);simp -implicitDefEqProofs only [go_sem,dia,ZM hki,ZO hci,hk0,hlt,hJi,ZbZ,Zb0,Zic,Zcw,Zcp,Zde,Za7,List.length_map,List.length_drop])
         rw [ZV (by simp only [LEN];omega)];refine ZP (pre.length+1) ?_ (by omega) (by omega);have hL1:J.length+1+(kk1.length - 1)=J.length+kk1.length:=by omega
         have hL2:J.length+(kk1.length - 1+1)=J.length+kk1.length:=by omega
         simp only [hJ,Zdf,Zdm,List.map_append,List.map_cons,←hsnd,List.length_append,List.length_cons,List.length_drop,hL1,hL2]
        ·have hkm:kmin ki s1.key=s1.key:=if_pos hlt;rw [hkm] at hJ;simp -implicitDefEqProofs only [go_sem,dia,ZM hki,ZO hci,hk0,hlt,hJi];repeat ((first|refine rq ?_|refine way (fun h=>absurd h (by simp)) (fun _=>?_)|refine way (fun _=>?_) (fun h=>absurd h (by simp))|refine req ⟨by omega,Zfl,Zig⟩ ?_|refine req ⟨by omega,ZfD,Zit⟩ ?_|fail);simp -implicitDefEqProofs only [go_sem,dia,ZM hki,ZO hci,hk0,hlt,hJi,ZbZ,Zb0,Zic,Zcw,Zcp,Zde,Za7,List.length_map,List.length_drop])
         rw [ZV (by simp only [LEN];omega)];refine ZP (pre.length+1) ?_ (by omega) (by omega);have hL1:J.length+1+(kk1.length - 1)=J.length+kk1.length:=by omega
         have hL2:J.length+(kk1.length - 1+1)=J.length+kk1.length:=by omega
         simp only [hJ,Zdf,Zdm,List.map_append,List.map_cons,←hsnd,List.length_append,List.length_cons,List.length_drop,hL1,hL2]
       ·have dia:decide ((i:Int)=((pre.length:Int)))=false:=decide_eq_false (by omega);have hJ:=Zi1 (kk:=kk1) hes hia;simp -implicitDefEqProofs only [go_sem,dia,ZM hki,ZO hci];repeat ((first|refine rq ?_|fail);simp -implicitDefEqProofs only [go_sem,dia,ZM hki,ZO hci,ZbZ,Zb0])
        rw [ZV (by simp only [LEN];omega)];refine ZP (i+1) ?_ (by omega) (by omega);simp [hJ]
      ·have hi:i=(n.Zj.zip n.Zk).length:=by omega
       rw [hi,ZeM (by omega)];generalize hE:ZeN (n.Zj.zip n.Zk) pre.length kk1=E at*;simp -implicitDefEqProofs only [go_sem];repeat ((first|refine rq ?_|fail);simp -implicitDefEqProofs only [go_sem])
       refine Za3 true (xs:=[.agg n'.cells]) hhalf rfl rfl rfl (by simp -implicitDefEqProofs only [go_sem,Z1.cells_eq,hnK,hnI,hnV,ZiR,Zcp];first|done|rfl) rfl rfl rfl rfl (.inl rfl) ?_;simp -implicitDefEqProofs only [go_sem,Z8,Zan];repeat ((first|refine rq ?_|fail);simp -implicitDefEqProofs only [go_sem,Z8,Zan])
       trace_state
     |some r2=>
      obtain ⟨w2,kk2⟩:=r2;rw [hs2] at hhalf;simp only at hhalf;obtain ⟨hw2,_,_⟩:=ZiW r1.ok hs2;have hsw2:=hw2.smallW hB;have hde:=ZcL (p:=page) hw2;have ha:ZdH w1 (Zat n') page=some (ZbP w2 page,kk2):=by rw [ZdH,hs2]
      rw [ha];simp only [Option.map_some];unfold PutC at hih ⊢;refine cof Go.Proofs.Tryz.func125 hr125 hl125 [true,false,false,false,false] ?_;simp -implicitDefEqProofs only [go_sem,Z8,Zan];refine Zal w.Zc page (by have:=hsw.1.1;omega) (by have:=hsw.1.2;omega) rfl ?_;simp -implicitDefEqProofs only [go_sem];refine Zas (ZU w.Zc page) (by have:=Zay hw.disk page;omega) rfl ?_;rw [hrn];simp only [ZaE];simp -implicitDefEqProofs only [go_sem,d8,hleaf];repeat ((first|refine rq ?_|fail);simp -implicitDefEqProofs only [go_sem,d8,hleaf])
      refine ZaT n key (by simp only [LEN];omega) (ls:=[]) (by simp -implicitDefEqProofs only [go_sem,Z1.cells_eq,hleaf];first|done|rfl) ?_;rw [g];simp -implicitDefEqProofs only [go_sem,da];repeat ((first|refine rq ?_|fail);simp -implicitDefEqProofs only [go_sem,da,e8,ZO hkid])
      have e8w:IntKind.i64.wrap (8 - (f:Int))=8 - (f:Int):=Zad (by omega) (by omega);refine Za3 false (xs:=[.int .i64 s.page,.int .i64 (8 - (f:Int)),.str key,.str val]) hih rfl rfl rfl (by simp -implicitDefEqProofs only [go_sem,hkp,e8w];first|done|rfl) rfl rfl rfl rfl (.inr (.inl rfl)) ?_;simp -implicitDefEqProofs only [go_sem,Z8,Zan];repeat ((first|refine rq ?_|fail);simp -implicitDefEqProofs only [go_sem,Z8,Zan])
      have hj0:ZbS (n.Zj.zip n.Zk) pre.length kk1 0=[]:=by simp [ZbS]
      refine ZY (α:=Nat) (fun i=>⟨[(0,.ref 0 0),(1,.d (.int .i64 page)),(13,.ref 1 0),(15,.ref 2 0),(16,.d (.int .i64 ((pre.length:Int)))),(17,.own 6 0 kk1.length),(18,.own 7 0 kk1.length),(20,.d (.int .i64 i))],[(0,some (.box [.d (.sl (strs w1.Zc.Zv)),.d (.sl (Zae w1.Zc.Zm)),.d (.int .i64 w1.Zs),.d (.sl (ints w1.ZH)),.d (.sl (ints w1.Zg)),.d (.sl (ints w1.Zf))])),(1,some (.box [.d (.bool false),.d (.sl (strs n.Zj)),.d (.sl (strs n.ZJ)),.d (.sl (ints n.Zk))])),(2,some (.box [.d (.bool false),.own 3 0 (ZbS (n.Zj.zip n.Zk) pre.length kk1 i).length,.own 4 0 0,.own 5 0 (ZbS (n.Zj.zip n.Zk) pre.length kk1 i).length])),(3,some (.arr 1 (strs ((ZbS (n.Zj.zip n.Zk) pre.length kk1 i).map (·.1))))),(4,some (.arr 1 [])),(5,some (.arr 1 (ints ((ZbS (n.Zj.zip n.Zk) pre.length kk1 i).map (·.2))))),(6,some (.arr 1 (strs (kk1.map (·.1))))),(7,some (.arr 1 (ints (kk1.map (·.2)))))]⟩)
       (fun i=>i≤n.Zj.length) (fun i=>n.Zj.length - i) 0 (by rw [hj0];rfl) (Nat.zero_le _) ?_
      rintro i i1;have hjle:=ZeL (es:=n.Zj.zip n.Zk) (at_:=pre.length) (kk:=kk1) (i:=i) (by omega);simp -implicitDefEqProofs only [go_sem];refine fork (fun h55=>?_) (fun h55=>?_)
      ·obtain ⟨ki,hki⟩:=Z3 h55;obtain ⟨ci,hci⟩:∃ci,n.Zk[i]? =some ci:=⟨_,List.getElem?_eq_getElem (by omega)⟩;have hes:=Zfg hki hci;by_cases hia:i=pre.length
       ·subst hia;have dia:decide (((pre.length:Nat):Int)=((pre.length:Int)))=true:=decide_eq_true (by omega);have hJ:=Zi2 (es:=n.Zj.zip n.Zk) (at_:=pre.length) (kk:=kk1);have hged:((n.Zj.zip n.Zk).getD pre.length ([],0)).1=ki:=by rw [List.getD,hes];rfl
        have hhd:kk1.headD ([],0)=(s1.key,s1.page):=by rw [hkk1];rfl
        rw [hged,hhd] at hJ;have hk0:lget (strs (kk1.map (·.1))) 0=[.str s1.key]:=by rw [hkk1];rfl
        have hkpos:0<kk1.length:=by rw [hkk1];simp
        have hsnd:kk1.map (·.2)=s1.page::(kk1.drop 1).map (·.2):=by rw [hkk1];rfl
        generalize hJi:ZbS (n.Zj.zip n.Zk) pre.length kk1 pre.length=J at*;cases hlt:Zax s1.key ki
        ·have hkm:kmin ki s1.key=ki:=if_neg (by unfold klt;rw [hlt];simp);rw [hkm] at hJ;simp -implicitDefEqProofs only [go_sem,dia,ZM hki,ZO hci,hk0,hlt,hJi];repeat ((first|refine rq ?_|refine way (fun h=>absurd h (by simp)) (fun _=>?_)|refine way (fun _=>?_) (fun h=>absurd h (by simp))|refine req ⟨by omega,Zfl,Zig⟩ ?_|refine req ⟨by omega,ZfD,Zit⟩ ?_|fail);simp -implicitDefEqProofs only [go_sem,dia,ZM hki,ZO hci,hk0,hlt,hJi,ZbZ,Zb0,Zic,Zcw,Zcp,Zde,Za7,List.length_map,List.length_drop])
         rw [ZV (by simp only [LEN];omega)];refine ZP (pre.length+1) ?_ (by omega) (by omega);have hL1:J.length+1+(kk1.length - 1)=J.length+kk1.length:=by omega
         have hL2:J.length+(kk1.length - 1+1)=J.length+kk1.length:=by omega
         simp only [hJ,Zdf,Zdm,List.map_append,List.map_cons,←hsnd,List.length_append,List.length_cons,List.length_drop,hL1,hL2]
        ·have hkm:kmin ki s1.key=s1.key:=if_pos hlt;rw [hkm] at hJ;simp -implicitDefEqProofs only [go_sem,dia,ZM hki,ZO hci,hk0,hlt,hJi];repeat ((first|refine rq ?_|refine way (fun h=>absurd h (by simp)) (fun _=>?_)|refine way (fun _=>?_) (fun h=>absurd h (by simp))|refine req ⟨by omega,Zfl,Zig⟩ ?_|refine req ⟨by omega,ZfD,Zit⟩ ?_|fail);simp -implicitDefEqProofs only [go_sem,dia,ZM hki,ZO hci,hk0,hlt,hJi,ZbZ,Zb0,Zic,Zcw,Zcp,Zde,Za7,List.length_map,List.length_drop])
         rw [ZV (by simp only [LEN];omega)];refine ZP (pre.length+1) ?_ (by omega) (by omega);have hL1:J.length+1+(kk1.length - 1)=J.length+kk1.length:=by omega
         have hL2:J.length+(kk1.length - 1+1)=J.length+kk1.length:=by omega
         simp only [hJ,Zdf,Zdm,List.map_append,List.map_cons,←hsnd,List.length_append,List.length_cons,List.length_drop,hL1,hL2]
       ·have dia:decide ((i:Int)=((pre.length:Int)))=false:=decide_eq_false (by omega);have hJ:=Zi1 (kk:=kk1) hes hia;simp -implicitDefEqProofs only [go_sem,dia,ZM hki,ZO hci];repeat ((first|refine rq ?_|fail);simp -implicitDefEqProofs only [go_sem,dia,ZM hki,ZO hci,ZbZ,Zb0])
        rw [ZV (by simp only [LEN];omega)];refine ZP (i+1) ?_ (by omega) (by omega);simp [hJ]
      ·have hi:i=(n.Zj.zip n.Zk).length:=by omega
       rw [hi,ZeM (by omega)];generalize hE:ZeN (n.Zj.zip n.Zk) pre.length kk1=E at*;simp -implicitDefEqProofs only [go_sem];repeat ((first|refine rq ?_|fail);simp -implicitDefEqProofs only [go_sem])
       refine Za3 true (xs:=[.agg n'.cells]) hhalf rfl rfl rfl (by simp -implicitDefEqProofs only [go_sem,Z1.cells_eq,hnK,hnI,hnV,ZiR,Zcp];first|done|rfl) rfl rfl rfl rfl (.inl rfl) ?_;simp -implicitDefEqProofs only [go_sem,Z8,Zan];repeat ((first|refine rq ?_|fail);simp -implicitDefEqProofs only [go_sem,Z8,Zan])
       refine Zbp w2 page hsw2 (by simp -implicitDefEqProofs only [go_sem,ZS.cells_eq];first|done|rfl) ?_;rw [hde];simp -implicitDefEqProofs only [go_sem,ZS.cells_eq,Z8,Zan];repeat ((first|refine rq ?_|fail);simp -implicitDefEqProofs only [go_sem,ZS.cells_eq,Z8,Zan])
       trace_state
end Go.Rx
