/-
  Part P3: lemmas on an evaluator over plain data of the model's code, plain laws on lists and numbers, or contracts of functions of the program; each lemma names its conditions.
-/
import Derived.Test.YtflimjgjgligeaaGreatSP2

set_option linter.unusedSimpArgs false
set_option linter.unusedVariables false
namespace Go.Rx
open Go
def kmin (a b:Key):Key:=if klt b a then b else a
theorem ZqZ {a b:Key}:kle (kmin a b) b:=by
 unfold kmin;split
 ·exact Zej
 ·rename_i h;exact Zfr.1 h
theorem ZfB {a b:Key} (h:kle a b):kmin a b=a:=if_neg (Zfr.2 h)
theorem ZuL {a b c:Key} (h1:kle c a) (h2:kle c b):kle c (kmin a b):=by unfold kmin;split<;>assumption
theorem ZuT {a b c:Key} (h:kle a b):kmin a (kmin b c)=kmin a c:=by
 by_cases hc:klt c a
 ·have:kmin b c=c:=if_pos (ZbB hc h);rw [this]
 ·rw [ZfB (Zfr.1 hc),ZfB (ZuL h (Zfr.1 hc))]
def Zat (n:Z1):List Z1:=if 4<n.Zj.length then [⟨n.Zn,n.Zj.take 3,n.ZJ.take 3,n.Zk.take 3⟩,⟨n.Zn,n.Zj.drop 3,n.ZJ.drop 3,n.Zk.drop 3⟩] else [n]
theorem ZcH {L : List ZR} : Zaq (Za2 L) = L := by
  simp only [Zaq, Za2];rw [zip_fst_snd' L]
  where zip_fst_snd' (L : List ZR) : ((L.map (·.Zi)).zip (L.map (·.ZI))).map Zfq = L := by
          rw [List.zip_map', List.map_map]
          conv => rhs; rw [← List.map_id L]
          exact List.map_congr_left fun x _ => rfl
theorem ZgH {n:Z1} (hn:ZaA n) (hl:n.Zn=true):Za2 (Zaq n)=n:=by
 have h:=hn.2.2.2.2;rw [if_pos hl] at h;have h1:=Zb6 hn hl;have h2:(Zaq n).map (·.ZI)=n.ZJ:=by
  simp only [Zaq,List.map_map,Function.comp_def,Zfq];exact List.map_snd_zip (by omega)
 unfold Za2;rw [h1,h2,←hl,←h.2.2]
theorem ZrD {rd:RD} {L:List ZR} (hL:ascP L):∃x parts,parts.length≤1∧Zat (Za2 L)=(x::parts).map Part.n∧(∀y∈x::parts,Cand rd 0 y.n y.ps y.C)∧(x::parts).flatMap Part.C=[]∧
  (x::parts).flatMap Part.ps=L∧((x::parts).Pairwise fun a b=>∀q∈a.ps,klt q.Zi (Zah b.n))∧Zah x.n=Zah (Za2 L):=by
 unfold Zat;by_cases h:4<(Za2 L).Zj.length
 ·rw [if_pos h];have h':4<L.length:=by simpa [Za2] using h
  refine ⟨⟨Za2 (L.take 3),L.take 3,[]⟩,[⟨Za2 (L.drop 3),L.drop 3,[]⟩],by simp,?_,?_,by simp,?_,?_,?_⟩
  ·simp [Za2,List.map_take,List.map_drop]
  ·intro y hy;simp only [List.mem_cons,List.not_mem_nil,or_false] at hy;rcases hy with rfl|rfl<;>exact ⟨rfl,ZcH.symm,rfl⟩
  ·simp
  ·refine List.pairwise_cons.2 ⟨fun y hy q hq=>?_,by simp⟩;simp only [List.mem_singleton] at hy;subst hy;obtain ⟨z,l,hz⟩:∃z l,L.drop 3=z::l:=by
    cases hd:L.drop 3 with
    |nil=>have:=congrArg List.length hd;simp at this;omega
    |cons z l=>exact ⟨z,l,rfl⟩
   have:Zah (Za2 (L.drop 3))=z.Zi:=by rw [hz];rfl
   simp only;rw [this];have hs:ascP (L.take 3++L.drop 3):=by rw [List.take_append_drop];exact hL
   exact (List.pairwise_append.1 hs).2.2 q hq z (by rw [hz];simp)
  ·cases L with
   |nil=>simp at h'
   |cons z l=>rfl
 ·rw [if_neg h];exact ⟨⟨Za2 L,L,[]⟩,[],by simp,rfl,fun y hy=>by simp at hy;subst hy;exact ⟨rfl,ZcH.symm,rfl⟩,by simp,by simp,by simp,rfl⟩
theorem Zfb {S:List Sub}:(Z0 (S.map ZaZ)).Zj=S.map Sub.key:=by simp [Z0,ZaZ,Function.comp_def]
theorem Zmu {S:List Sub}:(Z0 (S.map ZaZ)).Zk=S.map Sub.page:=by simp [Z0,ZaZ,Function.comp_def]
theorem Zc8 {rd:RD} {h:Nat} {S:List Sub} (ht:∀k∈S,Tre rd h k.page k.fst k.pairs k.pages) (hs:ZdS S):Cand rd (h+1) (Z0 (S.map ZaZ)) (S.flatMap Sub.pairs) (S.flatMap Sub.pages):=
 ⟨rfl,S,Zfb,Zmu,ht,hs,rfl,rfl⟩
theorem Zbv {a b:List Sub}:ZdS (a++b)↔ZdS a∧ZdS b∧∀x∈a,∀y∈b,∀q∈x.pairs,klt q.Zi y.key:=by
 unfold ZdS;rw [List.pairwise_append];constructor
 ·rintro ⟨h1,h2,h3,h4⟩;exact ⟨⟨fun k hk=>h1 k (List.mem_append_left _ hk),h2⟩,⟨fun k hk=>h1 k (List.mem_append_right _ hk),h3⟩,h4⟩
 ·rintro ⟨⟨h1,h2⟩,⟨h3,h4⟩,h5⟩;exact ⟨fun k hk=>(List.mem_append.1 hk).elim (h1 k) (h3 k),h2,h4,h5⟩
theorem ZmT {rd:RD} {h:Nat} {S:List Sub} (ht:∀k∈S,Tre rd h k.page k.fst k.pairs k.pages) (hs:ZdS S):∃x parts,parts.length≤1∧Zat (Z0 (S.map ZaZ))=(x::parts).map Part.n∧
  (∀y∈x::parts,Cand rd (h+1) y.n y.ps y.C)∧(x::parts).flatMap Part.C=S.flatMap Sub.pages∧
  (x::parts).flatMap Part.ps=S.flatMap Sub.pairs∧((x::parts).Pairwise fun a b=>∀q∈a.ps,klt q.Zi (Zah b.n))∧Zah x.n=Zah (Z0 (S.map ZaZ)):=by
 unfold Zat;by_cases hk:4<(Z0 (S.map ZaZ)).Zj.length
 ·rw [if_pos hk];have h':4<S.length:=by simpa [Z0] using hk
  have hS:S.take 3++S.drop 3=S:=List.take_append_drop 3 S;have hs':=hs;rw [←hS] at hs';obtain ⟨s1,s2,s3⟩:=Zbv.1 hs';refine ⟨⟨Z0 ((S.take 3).map ZaZ),(S.take 3).flatMap Sub.pairs,(S.take 3).flatMap Sub.pages⟩,[⟨Z0 ((S.drop 3).map ZaZ),(S.drop 3).flatMap Sub.pairs,(S.drop 3).flatMap Sub.pages⟩],by simp,?_,?_,?_,?_,?_,?_⟩
  ·simp [Z0,List.map_take,List.map_drop]
  ·intro y hy;simp only [List.mem_cons,List.not_mem_nil,or_false] at hy;rcases hy with rfl|rfl
   ·exact Zc8 (fun k hk=>ht k (List.mem_of_mem_take hk)) s1
   ·exact Zc8 (fun k hk=>ht k (List.mem_of_mem_drop hk)) s2
  ·simp only [List.flatMap_cons,List.flatMap_nil,List.append_nil];rw [←List.flatMap_append,hS]
  ·simp only [List.flatMap_cons,List.flatMap_nil,List.append_nil];rw [←List.flatMap_append,hS]
  ·refine List.pairwise_cons.2 ⟨fun y hy q hq=>?_,by simp⟩;simp only [List.mem_singleton] at hy;subst hy;obtain ⟨z,l,hz⟩:∃z l,S.drop 3=z::l:=by
    cases hd:S.drop 3 with
    |nil=>have:=congrArg List.length hd;simp at this;omega
    |cons z l=>exact ⟨z,l,rfl⟩
   have:Zah (Z0 ((S.drop 3).map ZaZ))=z.key:=by rw [hz];rfl
   simp only;rw [this];simp only at hq;obtain ⟨x,hx,hq⟩:=List.mem_flatMap.1 hq;exact s3 x hx z (by rw [hz];simp) q hq
  ·cases S with
   |nil=>simp at h'
   |cons z l=>rfl
 ·rw [if_neg hk];exact ⟨⟨Z0 (S.map ZaZ),S.flatMap Sub.pairs,S.flatMap Sub.pages⟩,[],by simp,rfl,fun y hy=>by simp at hy;subst hy;exact Zc8 ht hs,by simp,by simp,by simp,rfl⟩
theorem ZrY {L:List ZR} {k v:Key} (hL:ascP L) (hne:L≠ []):Zah (Za2 (mput L k v))=kmin (Zah (Za2 L)) k:=by
 cases L with
 |nil=>exact absurd rfl hne
 |cons x l=>
  obtain ⟨h1,h2⟩:=List.pairwise_cons.1 hL;have e:Zah (Za2 (x::l))=x.Zi:=rfl;rw [e];by_cases hk:klt x.Zi k
  ·have:(mput (x::l) k v)=x::((l.filter fun p=>decide (klt p.Zi k))++[⟨k,v⟩]++(x::l).filter fun p=>decide (klt k p.Zi)):=by
    unfold mput;rw [List.filter_cons,if_pos (decide_eq_true hk)];rfl
   rw [this,ZfB (ZfZ hk)];rfl
  ·have:(x::l).filter (fun p=>decide (klt p.Zi k))=[]:=ZgN fun q hq=>decide_eq_false fun h=>by
    rcases List.mem_cons.1 hq with rfl|hq
    ·exact hk h
    ·exact hk (Zdk (h1 q hq) h)
   have hm:Zah (Za2 (mput (x::l) k v))=k:=by unfold mput;rw [this];rfl
   rw [hm];unfold kmin;by_cases h2:klt k x.Zi
   ·rw [if_pos h2]
   ·rw [if_neg h2];exact Zw1 (Zfr.1 hk) (Zfr.1 h2)
def ZeN (es:List (Key×Int)) (i:Nat) (kk:List (Key×Int)):List (Key×Int):=
 es.take i++(kmin (es.getD i ([],0)).1 (kk.headD ([],0)).1,(kk.headD ([],0)).2)::kk.drop 1++es.drop (i+1)
def Zij (l:List Key) (key:Key):Nat:=(max 0 (Zbe l key)).toNat
def putU:Nat→ZS→Int→Key→Key→Option (ZS×List (Key×Int)×Nat)
 |0,_,_,_,_=>none
 |f+1,w,page,key,val=>match rdW w.Zc page with
  |none=>none
  |some n=>if n.Zn=true then (ZdH w (Zat (Za2 (mput (Zaq n) key val))) page).map fun r=>(r.1,r.2,0)
   else match putU f w (n.Zk.getD (Zij n.Zj key) 0) key val with
    |none=>none
    |some (w1,kk,dp)=>(ZdH w1 (Zat (Z0 (ZeN (n.Zj.zip n.Zk) (Zij n.Zj key) kk))) page).map fun r=>(r.1,r.2,dp+1)
theorem Zk2 {ks:List Sub} {key:Key} (hne:ks≠ []):∃pre s post,ks=pre++s::post∧Zij (ks.map Sub.key) key=pre.length∧(pre≠ []→kle s.key key)∧∀k∈post,klt key k.key:=by
 rcases Zdg (ks.map Sub.key) key with ⟨h1,h2⟩|⟨pre,k,post,h1,h2,h3,h4⟩
 ·cases ks with
  |nil=>exact absurd rfl hne
  |cons s ks=>
   refine ⟨[],s,ks,rfl,?_,fun h=>absurd rfl h,fun k hk=>h2 _ (List.mem_map.2 ⟨k,by simp [hk],rfl⟩)⟩;unfold Zij;rw [h1];rfl
 ·obtain ⟨a,b,e1,e2,e3⟩:=List.map_eq_append_iff.1 h1;cases b with
  |nil=>simp at e3
  |cons s post'=>
   simp only [List.map_cons,List.cons.injEq] at e3;refine ⟨a,s,post',e1,?_,fun _=>by rw [e3.1];exact h3,fun k hk=>h4 _ (by rw [←e3.2];exact List.mem_map.2 ⟨k,hk,rfl⟩)⟩;unfold Zij;rw [h2,←e2];simp
theorem Zf3 {α:Type} {a b:List α} {x d:α}:(a++x::b).getD a.length d=x:=by simp [List.getD]
theorem Zsf {pre post rest:List Sub} {s s1:Sub}:ZeN ((pre++s::post).map ZaZ) pre.length ((s1::rest).map ZaZ)=
  (pre++⟨kmin s.key s1.key,s1.page,s1.fst,s1.pairs,s1.pages⟩::(rest++post)).map ZaZ:=by
 have hd:(pre++s::post).drop (pre.length+1)=post:=by
  rw [←List.drop_drop,List.drop_left];rfl
 unfold ZeN;rw [←List.map_take,List.take_left];have e1:((pre++s::post).map ZaZ).getD pre.length ([],0)=ZaZ s:=by
  have h:=Zf3 (a:=pre.map ZaZ) (b:=post.map ZaZ) (x:=ZaZ s) (d:=(([]:Key),(0:Int)));rw [List.length_map] at h;rw [List.map_append,List.map_cons];exact h
 have e2:((pre++s::post).map ZaZ).drop (pre.length+1)=post.map ZaZ:=by rw [←List.map_drop,hd]
 rw [e1,e2];simp [ZaZ]
theorem ZbA {S:List Sub} (h:(S.flatMap Sub.pages).Nodup) {k:Sub} (hk:k∈S):k.pages.Nodup:=by
 induction S with
 |nil=>cases hk
 |cons x xs ih=>
  rw [List.flatMap_cons] at h;obtain ⟨a1,a2,_⟩:=List.nodup_append.1 h;rcases List.mem_cons.1 hk with rfl|hk
  ·exact a1
  ·exact ih a2 hk
theorem Zfp {ours:Int→Prop} {B:List Int} {key val:Key}:∀ {f h:Nat} {w w':ZS} {page:Int} {fk:Key} {ps:List ZR} {pg:List Int} {kk:List (Key×Int)} {dp:Nat},WOK ours B w→
  Tre (rdW w.Zc) h page fk ps pg→pg.Nodup→(∀q∈pg,live B w q)→putU f w page key val=some (w',kk,dp)→
  dp=h∧∃subs:List Sub,kk=subs.map ZaZ∧Repl ours B w w' h pg subs (mput ps key val) (kmin fk key)
 |0,h,w,w',page,fk,ps,pg,kk,dp,hw,ht,hn,hl,he=>by cases he
 |f+1,0,w,w',page,fk,ps,pg,kk,dp,hw,⟨n,h1,h2,h3,h4,h5⟩,hn,hl,he=>by
  rw [putU,h1] at he;simp only [h2,if_true] at he;have hok:=Zcx _ _ h1;have ha:ascP (Zaq n):=by rw [ZhF,Zb6 hok h2];exact hok.2.2.1
  have hne:Zaq n≠ []:=by
   have h1:=Ze2 hok h2;have h2:=hok.1;intro e;rw [e] at h1;simp at h1;omega
  cases hs:ZdH w (Zat (Za2 (mput (Zaq n) key val))) page with
  |none=>rw [hs] at he;cases he
  |some r=>
   obtain ⟨w1,ks1⟩:=r;rw [hs] at he;simp only [Option.map_some,Option.some.injEq,Prod.mk.injEq] at he;obtain ⟨rfl,rfl,rfl⟩:=he;refine ⟨rfl,?_⟩;obtain ⟨x,parts,p1,p2,p3,p4,p5,p6,p7⟩:=ZrD (rd:=rdW w.Zc) (Zv0 (k:=key) (v:=val) ha);rw [p2] at hs;obtain ⟨subs,e1,r⟩:=Zkn (h:=0) hw p1 p3 (by rw [p4];simp) (by rw [p4];simp) (hl page (by rw [h5];simp)) (by rw [p4];simp) p6 hs;refine ⟨subs,e1,?_⟩;rw [p4,p5,p7] at r;rw [ZrY ha hne,ZgH hok h2,←h3] at r;rw [h4,h5];exact r
 |f+1,h+1,w,w',page,fk,ps,pg,kk,dp,hw,⟨n,ks,h1,h2,h3,h4,h5,h6,h7,h8,h9⟩,hn,hl,he=>by
  rw [putU,h1] at he;simp only [h2,Bool.false_eq_true,if_false] at he;have hok:=Zcx _ _ h1;have hks:ks≠ []:=by
   have:=hok.1;rw [h4,List.length_map] at this;intro e;rw [e] at this;simp at this
  obtain ⟨pre,s,post,e1,e2,e3,e4⟩:=Zk2 (key:=key) hks;rw [←h4] at e2;rw [ZiN h4 h5] at he;rw [e2] at he;have hkid:n.Zk.getD pre.length 0=s.page:=by
   rw [h5,e1];have h:=Zf3 (a:=pre.map Sub.page) (b:=post.map Sub.page) (x:=s.page) (d:=(0:Int));rw [List.length_map] at h;rw [List.map_append,List.map_cons];exact h
  rw [hkid] at he;have hs:s∈ks:=by rw [e1];simp
  rw [h9] at hn hl;obtain ⟨n1,n2⟩:=List.nodup_cons.1 hn;have hsp:∀q∈s.pages,q∈ks.flatMap Sub.pages:=fun q hq=>List.mem_flatMap.2 ⟨s,hs,hq⟩
  cases hu:putU f w s.page key val with
  |none=>rw [hu] at he;cases he
  |some r=>
   obtain ⟨w1,kk1,dp1⟩:=r;rw [hu] at he;simp only at he;obtain ⟨hdp,subs1,rfl,r1⟩:=Zfp hw (h6 s hs) (ZbA n2 hs) (fun q hq=>hl q (List.mem_cons_of_mem _ (hsp q hq))) hu;obtain ⟨s1,rest,rfl,f1,f2⟩:=r1.head;have k1:s1.key=s1.fst:=r1.key s1 (by simp);rw [e1,Zsf] at he;cases ha:ZdH w1 (Zat (Z0 ((pre++⟨kmin s.key s1.key,s1.page,s1.fst,s1.pairs,s1.pages⟩::(rest++post)).map ZaZ))) page with
   |none=>rw [ha] at he;cases he
   |some r2=>
    obtain ⟨w2,ks2⟩:=r2;rw [ha] at he;simp only [Option.map_some,Option.some.injEq,Prod.mk.injEq] at he;obtain ⟨rfl,rfl,rfl⟩:=he;refine ⟨by rw [hdp],?_⟩;rw [e1] at h7;obtain ⟨o1,o2,o3⟩:=Zbv.1 h7;have o4:=List.pairwise_cons.1 o2.2;have o5:=o2.1;obtain ⟨q1,q2⟩:=r1.sok;obtain ⟨q3,q4⟩:=List.pairwise_cons.1 q2;have hkey:pre≠ []→kmin s.key s1.key=s.key:=fun hp=>ZfB (by rw [k1,f1];exact ZuL (o5 s (by simp)) (e3 hp))
    have t1:=r1.tre s1 (by simp);have hlow:∀k∈ks,∀q∈k.pairs,kle k.key q.Zi:=fun k hk q hq=>Zdl ((by rw [←e1] at h7;exact h7.1 k hk)) ((h6 k hk).low Zcx q hq)
    have hrest:∀r∈rest,klt s1.key r.key:=fun r hr=>by
     have hne:=t1.nonempty Zcx;cases hp:s1.pairs with
     |nil=>exact absurd hp hne
     |cons x l=>
      have hx:x∈s1.pairs:=by rw [hp];simp
      exact Zsc (by rw [k1];exact t1.low Zcx x hx) (q3 r hr x hx)
    have hps:s1.pairs++rest.flatMap Sub.pairs=mput s.pairs key val:=by have:=r1.pairs;rwa [List.flatMap_cons] at this
    have hpost:∀x∈mput s.pairs key val,∀y∈post,klt x.Zi y.key:=fun x hx y hy=>by
     rcases ZwV hx with hx|rfl
     ·exact o4.1 y hy x hx
     ·exact e4 y hy
    have hpre:∀x∈pre,∀q∈x.pairs,klt q.Zi s.key:=fun x hx q hq=>o3 x hx s (by simp) q hq
    have hS:ZdS (pre++⟨kmin s.key s1.key,s1.page,s1.fst,s1.pairs,s1.pages⟩::(rest++post)):=by
     refine Zbv.2 ⟨o1,?_,?_⟩
     ·have:ZdS (rest++post):=by
       refine Zbv.2 ⟨⟨fun k hk=>q1 k (by simp [hk]),q4⟩,⟨fun k hk=>o5 k (by simp [hk]),o4.2⟩,fun x hx y hy q hq=>?_⟩;exact hpost q (by rw [←hps];exact List.mem_append_right _ (List.mem_flatMap.2 ⟨x,hx,hq⟩)) y hy
      refine ⟨fun k hk=>?_,List.pairwise_cons.2 ⟨fun y hy q hq=>?_,this.2⟩⟩
      ·rcases List.mem_cons.1 hk with rfl|hk
       ·show kle (kmin s.key s1.key) s1.fst;rw [←k1];exact ZqZ
       ·exact this.1 k hk
      ·rcases List.mem_append.1 hy with hy|hy
       ·exact q3 y hy q hq
       ·exact hpost q (by rw [←hps];exact List.mem_append_left _ hq) y hy
     ·intro x hx y hy q hq;have hp:pre≠ []:=fun e=>by rw [e] at hx;cases hx
      rcases List.mem_cons.1 hy with rfl|hy
      ·show klt q.Zi (kmin s.key s1.key);rw [hkey hp];exact hpre x hx q hq
      ·rcases List.mem_append.1 hy with hy|hy
       ·refine Zdk (ZbB (hpre x hx q hq) ?_) (hrest y hy);rw [←hkey hp];exact ZqZ
       ·exact o3 x hx y (by simp [hy]) q hq
    have hlv:∀q∈ks.flatMap Sub.pages,live B w q:=fun q hq=>hl q (List.mem_cons_of_mem _ hq)
    have hap:∀k∈pre++post,k∈ks∧∀q∈k.pages,q∉s.pages:=fun k hk=>by
     have hk':k∈ks:=by
      rw [e1];rcases List.mem_append.1 hk with h|h
      ·simp [h]
      ·simp [h]
     refine ⟨hk',fun q hq hqs=>?_⟩;rw [e1,List.flatMap_append,List.flatMap_cons] at n2;obtain ⟨_,m1,m2⟩:=List.nodup_append.1 n2;obtain ⟨_,_,m3⟩:=List.nodup_append.1 m1;rcases List.mem_append.1 hk with h|h
     ·exact m2 q (List.mem_flatMap.2 ⟨k,h,hq⟩) q (List.mem_append_left _ hqs) rfl
     ·exact m3 q hqs q (List.mem_flatMap.2 ⟨k,h,hq⟩) rfl
    have hold:∀k∈pre++post,Tre (rdW w1.Zc) h k.page k.fst k.pairs k.pages:=fun k hk=>by
     obtain ⟨g1,g2⟩:=hap k hk;exact (h6 k g1).frame fun q hq=>r1.keep q (hlv q (List.mem_flatMap.2 ⟨k,g1,hq⟩)) (g2 q hq)
    have hT:∀k∈pre++⟨kmin s.key s1.key,s1.page,s1.fst,s1.pairs,s1.pages⟩::(rest++post),Tre (rdW w1.Zc) h k.page k.fst k.pairs k.pages:=fun k hk=>by
     rcases List.mem_append.1 hk with hk|hk
     ·exact hold k (by simp [hk])
     ·rcases List.mem_cons.1 hk with rfl|hk
      ·exact t1
      ·rcases List.mem_append.1 hk with hk|hk
       ·exact r1.tre k (by simp [hk])
       ·exact hold k (by simp [hk])
    have hC:(pre++⟨kmin s.key s1.key,s1.page,s1.fst,s1.pairs,s1.pages⟩::(rest++post)).flatMap Sub.pages=pre.flatMap Sub.pages++((s1::rest).flatMap Sub.pages++post.flatMap Sub.pages):=by
     simp [List.flatMap_append,List.flatMap_cons,List.append_assoc]
    have hpp:∀q,q∈pre.flatMap Sub.pages∨q∈post.flatMap Sub.pages→q∈ks.flatMap Sub.pages∧q∉s.pages:=fun q hq=>by
     have:∃k∈pre++post,q∈k.pages:=by
      rcases hq with hq|hq
      ·obtain ⟨k,hk,hq⟩:=List.mem_flatMap.1 hq;exact ⟨k,by simp [hk],hq⟩
      ·obtain ⟨k,hk,hq⟩:=List.mem_flatMap.1 hq;exact ⟨k,by simp [hk],hq⟩
     obtain ⟨k,hk,hq⟩:=this;obtain ⟨g1,g2⟩:=hap k hk;exact ⟨List.mem_flatMap.2 ⟨k,g1,hq⟩,g2 q hq⟩
    have hksp:∀q,q∈ks.flatMap Sub.pages↔q∈pre.flatMap Sub.pages∨q∈s.pages∨q∈post.flatMap Sub.pages:=fun q=>by
     rw [e1,List.flatMap_append,List.flatMap_cons];simp only [List.mem_append]
    have hnd:((pre++⟨kmin s.key s1.key,s1.page,s1.fst,s1.pairs,s1.pages⟩::(rest++post)).flatMap Sub.pages).Nodup:=by
     rw [hC,List.nodup_append,List.nodup_append];rw [e1,List.flatMap_append,List.flatMap_cons] at n2;obtain ⟨m0,m1,m2⟩:=List.nodup_append.1 n2;obtain ⟨_,m4,m3⟩:=List.nodup_append.1 m1;refine ⟨m0,⟨r1.nodup,m4,fun a ha b hb e=>?_⟩,fun a ha b hb e=>?_⟩
     ·subst e;obtain ⟨g1,g2⟩:=hpp a (.inr hb);exact r1.new a ha ⟨hlv a g1,g2⟩
     ·subst e;rcases List.mem_append.1 hb with hb|hb
      ·obtain ⟨g1,g2⟩:=hpp a (.inl ha);exact r1.new a hb ⟨hlv a g1,g2⟩
      ·exact m2 a ha a (List.mem_append_right _ hb) rfl
    have hlp:live B w page:=hl page (by simp);have hlp1:live B w1 page:=(r1.now page).2 (.inl ⟨hlp,fun e=>n1 (hsp page e)⟩);have hpC:page∉(pre++⟨kmin s.key s1.key,s1.page,s1.fst,s1.pairs,s1.pages⟩::(rest++post)).flatMap Sub.pages:=by
     rw [hC];simp only [List.mem_append,not_or];refine ⟨fun e=>n1 (hpp page (.inl e)).1,fun e=>r1.new page e ⟨hlp,fun e=>n1 (hsp page e)⟩,fun e=>n1 (hpp page (.inr e)).1⟩
    have hlC:∀q∈(pre++⟨kmin s.key s1.key,s1.page,s1.fst,s1.pairs,s1.pages⟩::(rest++post)).flatMap Sub.pages,live B w1 q:=fun q hq=>by
     rw [hC] at hq;simp only [List.mem_append] at hq;rw [r1.now];rcases hq with hq|hq|hq
     ·obtain ⟨g1,g2⟩:=hpp q (.inl hq);exact .inl ⟨hlv q g1,g2⟩
     ·exact .inr hq
     ·obtain ⟨g1,g2⟩:=hpp q (.inr hq);exact .inl ⟨hlv q g1,g2⟩
    generalize hSS:pre++(⟨kmin s.key s1.key,s1.page,s1.fst,s1.pairs,s1.pages⟩:Sub)::(rest++post)=S at*;obtain ⟨x,parts,p1,p2,p3,p4,p5,p6,p7⟩:=ZmT (rd:=rdW w1.Zc) (h:=h) hT hS;rw [p2] at ha;obtain ⟨subs,e5,r⟩:=Zkn (h:=h+1) r1.ok p1 p3 (by rw [p4];exact hnd) (by rw [p4];exact hlC) hlp1 (by rw [p4];exact hpC) p6 ha;refine ⟨subs,e5,?_⟩;rw [p4,p5,p7] at r;have hpairs:S.flatMap Sub.pairs=mput ps key val:=by
     rw [←hSS,h8,e1];simp only [List.flatMap_append,List.flatMap_cons];have:=ZwU (a:=pre.flatMap Sub.pairs) (b:=s.pairs) (c:=post.flatMap Sub.pairs) (k:=key) (v:=val) (fun q hq=>by
      obtain ⟨k,hk,hq⟩:=List.mem_flatMap.1 hq;have hp:pre≠ []:=fun e=>by rw [e] at hk;cases hk
      exact ZbB (hpre k hk q hq) (e3 hp)) (fun q hq=>by
      obtain ⟨k,hk,hq⟩:=List.mem_flatMap.1 hq;exact ZbB (e4 k hk) (hlow k (by rw [e1];simp [hk]) q hq))
     rw [List.append_assoc] at this;rw [this,←hps];simp [List.append_assoc]
    have hfirst:Zah (Z0 (S.map ZaZ))=kmin fk key:=by
     rw [←hSS,h3];unfold Zah;rw [h4,e1,Zfb];cases hp:pre with
     |nil=>
      show kmin s.key s1.key=kmin s.key key;rw [k1,f1];exact ZuT (o5 s (by simp))
     |cons y l=>
      have hne:pre≠ []:=by rw [hp];simp
      have hmem:y∈pre:=by rw [hp];simp
      show y.key=kmin y.key key;have hasc:=hok.2.2.1;rw [h4,e1,hp] at hasc;simp only [List.cons_append,List.map_cons] at hasc;have h1:kle y.key s.key:=Zjb hasc s.key (by simp);rw [ZfB (Zdl h1 (e3 hne))]
    rw [hpairs,hfirst] at r;have hSp:∀q,q∈S.flatMap Sub.pages↔q∈pre.flatMap Sub.pages∨q∈(s1::rest).flatMap Sub.pages∨q∈post.flatMap Sub.pages:=fun q=>by rw [hC];simp only [List.mem_append]
    refine ⟨r.ok,r.tre,r.key,r.sok,r.pairs,r.nodup,fun q=>?_,fun q hq=>?_,fun q hq ho=>?_,fun q hq=>?_,r.head,r.two⟩
    ·rw [r.now,r1.now,h9];simp only [List.mem_cons,not_or,hSp,hksp];constructor
     ·rintro (⟨h|h,h2,h3,h4,h5⟩|h)
      ·exact .inl ⟨h.1,h2,h3,h.2,h5⟩
      ·exact absurd h h4
      ·exact .inr h
     ·rintro (⟨g0,g2,g3,g4,g5⟩|h)
      ·exact .inl ⟨.inl ⟨g0,g4⟩,g2,g3,fun e=>r1.new q e ⟨g0,g4⟩,g5⟩
      ·exact .inr h
    ·rw [h9];simp only [List.mem_cons,not_or,hksp];rintro ⟨g1,g2,g3,g4,g5⟩;refine r.new q hq ⟨(r1.now q).2 (.inl ⟨g1,g4⟩),?_⟩;simp only [List.mem_cons,not_or,hSp];exact ⟨g2,g3,fun e=>r1.new q e ⟨g1,g4⟩,g5⟩
    ·rw [h9] at ho;simp only [List.mem_cons,not_or,hksp] at ho;obtain ⟨g2,g3,g4,g5⟩:=ho;rw [r.keep q ((r1.now q).2 (.inl ⟨hq,g4⟩)) (by simp only [List.mem_cons,not_or,hSp];exact ⟨g2,g3,fun e=>r1.new q e ⟨hq,g4⟩,g5⟩),r1.keep q hq g4]
    ·rw [r.far q hq,r1.far q hq]
end Go.Rx
namespace Go.Rx
open Go
def putK (w:ZS) (root:Int) (key val:Key):Option (ZS×Int):=
 if 24<key.length∨24<val.length then none
 else if root=0 then putN w (Za2 [⟨key,val⟩])
 else match putU 8 w root key val with
  |none=>none
  |some (w1,kk,dp)=>match kk with
   |[]=>none
   |[k]=>some (w1,k.2)
   |k1::k2::_=>if 7≤dp then none else putN w1 (Z0 [k1,k2])
structure Txs (ours:Int→Prop) (B:List Int) (w:ZS) (root:Int) (ps:List ZR) (pg:List Int):Prop where
 ok:WOK ours B w
 tree:Zdp (rdW w.Zc) root ps pg
 now:∀q,live B w q↔q∈pg
theorem Zuf {w w1:ZS} {n:Z1} {p old:Int} (h:putN w n=some (w1,p)):ZdH w [n] old=some (ZbP w1 old,[(Zah n,p)]):=by
 simp [ZdH,putS,h]
theorem ZmZ {ours:Int→Prop} {B:List Int} {w w':ZS} {h:Nat} {n:Z1} {ps:List ZR} {C:List Int} {p:Int} (hw:WOK ours B w) (hc:Cand (rdW w.Zc) h n ps C) (hn:C.Nodup) (hl:∀q,live B w q↔q∈C) (h8:h<8)
  (hp:putN w n=some (w',p)):Txs ours B w' p ps (p::C)∧∀q,¬ours q→rdW w'.Zc q=rdW w.Zc q:=by
 have g:=ZeD hw hp;have hpC:p∉C:=fun e=>g.dead ((hl p).2 e)
 have hlow:=g.low;refine ⟨⟨g.ok,.inr ⟨by omega,List.nodup_cons.2 ⟨hpC,hn⟩,h,_,h8,ZhK.2 ⟨n,C,g.rd,rfl,hc.frame fun q hq=>g.rdo q fun e=>hpC (e▸hq),rfl⟩⟩,fun q=>?_⟩,fun q hq=>g.rdo q fun e=>hq (e▸g.our)⟩;rw [g.now,hl,List.mem_cons];constructor
 ·rintro (h|h)
  ·exact .inr h
  ·exact .inl h
 ·rintro (h|h)
  ·exact .inr h
  ·exact .inl h
theorem Zug {ours:Int→Prop} {B:List Int} {w w':ZS} {root r':Int} {ps:List ZR} {pg:List Int} {key val:Key} (h:Txs ours B w root ps pg) (he:putK w root key val=some (w',r')):
  ∃pg',Txs ours B w' r' (mput ps key val) pg'∧∀q,¬ours q→rdW w'.Zc q=rdW w.Zc q:=by
 unfold putK at he;split at he
 ·cases he
 ·split at he
  ·rename_i hr;rcases h.tree with ⟨_,h2,h3⟩|⟨h1,_⟩
   ·have hp:mput ps key val=[⟨key,val⟩]:=by rw [h2];rfl
    have hl:∀q,live B w q↔q∈([]:List Int):=fun q=>by rw [h.now,h3]
    rw [hp];exact ⟨_,ZmZ (h:=0) h.ok ⟨rfl,ZcH.symm,rfl⟩ (by simp) hl (by omega) he⟩
   ·exact absurd hr h1
  ·rename_i hr;rcases h.tree with ⟨h1,_⟩|⟨h1,h2,ht,f,h3,h4⟩
   ·exact absurd h1 hr
   ·split at he
    ·cases he
    ·rename_i w1 kk dp hu;obtain ⟨hdp,subs,rfl,r⟩:=Zfp h.ok h4 h2 (fun q hq=>(h.now q).2 hq) hu;obtain ⟨s,rest,rfl,f1,f2⟩:=r.head;have hlive:∀q,live B w1 q↔q∈(s::rest).flatMap Sub.pages:=fun q=>by
      rw [r.now];constructor
      ·rintro (⟨h5,h6⟩|h5)
       ·exact absurd ((h.now q).1 h5) h6
       ·exact h5
      ·exact .inr
     cases rest with
     |nil=>
      simp only [List.map_cons,List.map_nil,Option.some.injEq,Prod.mk.injEq] at he;obtain ⟨rfl,rfl⟩:=he;have ht1:=r.tre s (by simp);have hp:=r.pairs;simp only [List.flatMap_cons,List.flatMap_nil,List.append_nil] at hp hlive;have hnd:=r.nodup;simp only [List.flatMap_cons,List.flatMap_nil,List.append_nil] at hnd;have hne:s.page≠0:=by have:=r.two s (by simp);omega
      rw [←hp];exact ⟨s.pages,⟨r.ok,.inr ⟨hne,hnd,ht,_,h3,ht1⟩,hlive⟩,r.far⟩
     |cons s2 rest=>
      have hr0:rest=[]:=by simpa using f2
      subst hr0;simp only [List.map_cons,List.map_nil] at he;split at he
      ·cases he
      ·rename_i h7;have hp:=r.pairs;have hc:=Zc8 (S:=[s,s2]) r.tre r.sok;obtain ⟨e1,e2⟩:=ZmZ (h:=ht+1) r.ok hc r.nodup hlive (by omega) he;rw [hp] at e1;exact ⟨_,e1,fun q hq=>by rw [e2 q hq,r.far q hq]⟩
end Go.Rx
namespace Go.Rx
open Go
def getK:Nat→RD→Int→Key→Option Key
 |0,_,_,_=>none
 |f+1,rd,page,key=>match rd page with
  |none=>none
  |some n=>if Zbe n.Zj key<0 then none
   else if n.Zn=true then if n.Zj.getD (Zbe n.Zj key).toNat []=key then some (n.ZJ.getD (Zbe n.Zj key).toNat []) else none
   else getK f rd (n.Zk.getD (Zbe n.Zj key).toNat 0) key
theorem Zlh {n:Z1} {key:Key} (hok:ZaA n) (hl:n.Zn=true):
  (Zbe n.Zj key= -1∧∀p∈Zaq n,klt key p.Zi)∨
  ∃a x b,Zaq n=a++x::b∧Zbe n.Zj key=(a.length:Int)∧kle x.Zi key∧(∀p∈b,klt key p.Zi)∧(∀p∈a,klt p.Zi x.Zi)∧n.Zj.getD a.length []=x.Zi∧n.ZJ.getD a.length []=x.ZI:=by
 have hk:=Zb6 hok hl;have hn:=ZgH hok hl;have ha:ascP (Zaq n):=by rw [ZhF,hk];exact hok.2.2.1
 rcases Zdg n.Zj key with ⟨h1,h2⟩|⟨pre,k,post,h1,h2,h3,h4⟩
 ·refine .inl ⟨h1,fun p hp=>h2 _ ?_⟩;rw [←hk];exact List.mem_map.2 ⟨p,hp,rfl⟩
 ·right;rw [←hk] at h1;obtain ⟨a,b',e1,e2,e3⟩:=List.map_eq_append_iff.1 h1;cases b' with
  |nil=>simp at e3
  |cons x b=>
   simp only [List.map_cons,List.cons.injEq] at e3;have hlen:a.length=pre.length:=by rw [←e2];simp
   rw [e1] at ha;refine ⟨a,x,b,e1,by rw [h2,hlen],by rw [e3.1];exact h3,fun p hp=>h4 _ (by rw [←e3.2];exact List.mem_map.2 ⟨p,hp,rfl⟩),fun p hp=>(List.pairwise_append.1 ha).2.2 p hp x (by simp),?_,?_⟩
   ·rw [←hn,e1];have h:=Zf3 (a:=a.map (·.Zi)) (b:=b.map (·.Zi)) (x:=x.Zi) (d:=([]:Key));rw [List.length_map] at h;simp only [Za2,List.map_append,List.map_cons];exact h
   ·rw [←hn,e1];have h:=Zf3 (a:=a.map (·.ZI)) (b:=b.map (·.ZI)) (x:=x.ZI) (d:=([]:Key));rw [List.length_map] at h;simp only [Za2,List.map_append,List.map_cons];exact h
theorem ZiD {n:Z1} {ks:List Sub} {key:Key} (h4:n.Zj=ks.map Sub.key) (h5:n.Zk=ks.map Sub.page):
  (Zbe n.Zj key= -1∧∀k∈ks,klt key k.key)∨
  ∃pre s post,ks=pre++s::post∧Zbe n.Zj key=(pre.length:Int)∧kle s.key key∧(∀k∈post,klt key k.key)∧n.Zk.getD pre.length 0=s.page:=by
 rcases Zdg n.Zj key with ⟨h1,h2⟩|⟨pre,k,post,h1,h2,h3,h6⟩
 ·exact .inl ⟨h1,fun k hk=>h2 _ (by rw [h4];exact List.mem_map.2 ⟨k,hk,rfl⟩)⟩
 ·right;rw [h4] at h1;obtain ⟨a,b',e1,e2,e3⟩:=List.map_eq_append_iff.1 h1;cases b' with
  |nil=>simp at e3
  |cons s b=>
   simp only [List.map_cons,List.cons.injEq] at e3;have hlen:a.length=pre.length:=by rw [←e2];simp
   refine ⟨a,s,b,e1,by rw [h2,hlen],by rw [e3.1];exact h3,fun k hk=>h6 _ (by rw [←e3.2];exact List.mem_map.2 ⟨k,hk,rfl⟩),?_⟩;rw [h5,e1];have h:=Zf3 (a:=a.map Sub.page) (b:=b.map Sub.page) (x:=s.page) (d:=(0:Int));rw [List.length_map] at h;rw [List.map_append,List.map_cons];exact h
theorem around {rd:RD} (ho:rdOk rd) {h:Nat} {pre post:List Sub} {s:Sub} {key:Key} (hs:ZdS (pre++s::post)) (ht:∀k∈pre++s::post,Tre rd h k.page k.fst k.pairs k.pages) (h3:kle s.key key) (h4:∀k∈post,klt key k.key):
  (∀q∈pre.flatMap Sub.pairs,klt q.Zi key)∧(∀q∈post.flatMap Sub.pairs,klt key q.Zi):=by
 obtain ⟨_,o2,o3⟩:=Zbv.1 hs;constructor
 ·intro q hq;obtain ⟨k,hk,hq⟩:=List.mem_flatMap.1 hq;exact ZbB (o3 k hk s (by simp) q hq) h3
 ·intro q hq;obtain ⟨k,hk,hq⟩:=List.mem_flatMap.1 hq;exact ZbB (h4 k hk) (Zdl (hs.1 k (by simp [hk])) ((ht k (by simp [hk])).low ho q hq))
def finU (w:ZS) (n:Z1) (page:Int):Option (ZS×Int):=
 if n.Zj=[] then some (ZbP w page,0) else match putN w n with
  |none=>none
  |some (w',p)=>some (ZbP w' page,p)
def Zhw:Nat→ZS→Int→Key→Option (ZS×Int)
 |0,_,_,_=>none
 |f+1,w,page,key=>match rdW w.Zc page with
  |none=>none
  |some n=>if Zbe n.Zj key<0 then none
   else if n.Zn=true then
    if n.Zj.getD (Zbe n.Zj key).toNat []=key then finU w (Za2 ((Zaq n).eraseIdx (Zbe n.Zj key).toNat)) page else none
   else match Zhw f w (n.Zk.getD (Zbe n.Zj key).toNat 0) key with
    |none=>none
    |some (w1,k)=>finU w1 (Z0 (if k=0 then (n.Zj.zip n.Zk).eraseIdx (Zbe n.Zj key).toNat
      else (n.Zj.zip n.Zk).set (Zbe n.Zj key).toNat (((n.Zj.zip n.Zk).getD (Zbe n.Zj key).toNat ([],0)).1,k))) page
structure Zwi (ours:Int→Prop) (B:List Int) (w w':ZS) (h:Nat) (old:List Int) (p:Int) (f:Key) (ps:List ZR) (pg:List Int):Prop where
 ok:WOK ours B w'
 tre:(p=0∧ps=[]∧pg=[])∨(2≤p∧∃f',kle f f'∧Tre (rdW w'.Zc) h p f' ps pg)
 nodup:pg.Nodup
 now:∀q,live B w' q↔(live B w q∧q∉old)∨q∈pg
 new:∀q∈pg,¬(live B w q∧q∉old)
 keep:∀q,live B w q→q∉old→rdW w'.Zc q=rdW w.Zc q
 far:∀q,¬ours q→rdW w'.Zc q=rdW w.Zc q
theorem ZnX {ours:Int→Prop} {B:List Int} {h:Nat} {n:Z1} {ps:List ZR} {C:List Int} {w w':ZS} {page p:Int} {f:Key} (hw:WOK ours B w) (hc:Cand (rdW w.Zc) h n ps C) (hn:C.Nodup) (hl:∀q∈C,live B w q)
  (hp:live B w page) (hpc:page∉C) (hz:n.Zj=[]→ps=[]∧C=[]) (hf:n.Zj≠ []→kle f (Zah n)) (he:finU w n page=some (w',p)):∃pg,Zwi ours B w w' h (page::C) p f ps pg:=by
 unfold finU at he;split at he
 ·rename_i hk;simp only [Option.some.injEq,Prod.mk.injEq] at he;obtain ⟨rfl,rfl⟩:=he;obtain ⟨h1,h2⟩:=hz hk;obtain ⟨d1,d2⟩:=ZeP hw hp;subst h1 h2;refine ⟨[],d1,.inl ⟨rfl,rfl,rfl⟩,by simp,fun q=>?_,by simp,fun q _ _=>by rw [ZbI],fun q _=>by rw [ZbI]⟩;rw [d2];simp
 ·rename_i hk;split at he
  ·cases he
  ·rename_i w1 p1 hput;simp only [Option.some.injEq,Prod.mk.injEq] at he;obtain ⟨rfl,rfl⟩:=he;have ha:=Zuf (old:=page) hput;obtain ⟨subs,e,r⟩:=Zkn (x:=⟨n,ps,C⟩) (parts:=[]) (h:=h) hw (by simp) (fun y hy=>by simp at hy;subst hy;exact hc) (by simpa using hn) (by simpa using hl) hp (by simpa using hpc) (by simp) ha;cases subs with
   |nil=>simp at e
   |cons s rest=>
    simp only [List.map_cons,List.cons.injEq,ZaZ,Prod.mk.injEq] at e;obtain ⟨⟨e1,e2⟩,e3⟩:=e;have:rest=[]:=by
     cases rest with
     |nil=>rfl
     |cons a b=>simp at e3
    subst this;have hps:=r.pairs;have hnd:=r.nodup;have hnow:=r.now;have hnew:=r.new;simp only [List.flatMap_cons,List.flatMap_nil,List.append_nil] at hps hnd hnow hnew;refine ⟨s.pages,r.ok,.inr ⟨by rw [e2];exact r.two s (by simp),s.fst,?_,by rw [e2,←hps];exact r.tre s (by simp)⟩,hnd,hnow,hnew,fun q h1 h2=>r.keep q h1 (by simpa using h2),r.far⟩;rw [←r.key s (by simp),←e1];exact hf hk
theorem ZuD {a b:List ZR} {x:ZR} {key:Key} (h:ascP (a++x::b)) (hx:x.Zi=key):ZeI (a++x::b) key=a++b:=by
 have h1:=(List.pairwise_append.1 h).2.2;have h2:=(List.pairwise_cons.1 (List.pairwise_append.1 h).2.1).1;have:=Znl (a:=a) (b:=[x]) (c:=b) (k:=key) (fun p hp=>by rw [←hx];exact h1 p hp x (by simp)) (fun p hp=>by rw [←hx];exact h2 p hp);rw [List.append_assoc,List.singleton_append] at this;rw [this];simp [ZeI,hx]
theorem ZnZ {α:Type} {a b:List α} {x:α}:(a++x::b).eraseIdx a.length=a++b:=by
 rw [List.eraseIdx_append_of_length_le (Nat.le_refl _)];simp
theorem ZyN {α:Type} {a b:List α} {x y:α}:(a++x::b).set a.length y=a++y::b:=by
 rw [List.set_append_right _ _ (Nat.le_refl _)];simp
end Go.Rx
namespace Go.Rx
open Go
theorem Zf6 {ours:Int→Prop} {B:List Int} {key:Key}:∀ {f h:Nat} {w w':ZS} {page p:Int} {fk:Key} {ps:List ZR} {pg:List Int},WOK ours B w→
  Tre (rdW w.Zc) h page fk ps pg→pg.Nodup→(∀q∈pg,live B w q)→Zhw f w page key=some (w',p)→
  (∃q∈ps,q.Zi=key)∧∃pg',Zwi ours B w w' h pg p fk (ZeI ps key) pg'
 |0,h,w,w',page,p,fk,ps,pg,hw,ht,hn,hl,he=>by cases he
 |f+1,0,w,w',page,p,fk,ps,pg,hw,⟨n,h1,h2,h3,h4,h5⟩,hn,hl,he=>by
  rw [Zhw,h1] at he;simp only [h2,if_true] at he;have hok:=Zcx _ _ h1;rcases Zlh (key:=key) hok h2 with ⟨g1,g2⟩|⟨a,x,b,g1,g2,g3,g4,g5,g6,g7⟩
  ·rw [g1,if_pos (by omega)] at he;cases he
  ·rw [g2,if_neg (by omega),Int.toNat_natCast,g6] at he;split at he
   ·rename_i hx;have ha:ascP (Zaq n):=by rw [ZhF,Zb6 hok h2];exact hok.2.2.1
    rw [g1] at ha;rw [g1,ZnZ] at he;refine ⟨⟨x,by rw [h4,g1];simp,hx⟩,?_⟩;have hd:=ZuD ha hx;have hfa:Zah n=Zah (Za2 (a++x::b)):=by rw [←g1,ZgH hok h2]
    obtain ⟨pg',r⟩:=ZnX (h:=0) (ps:=a++b) (C:=[]) (f:=fk) hw ⟨rfl,ZcH.symm,rfl⟩ (by simp) (by simp) (hl page (by rw [h5];simp)) (by simp)
     (fun e=>by
      have:(a++b).map (·.Zi)=[]:=e;exact ⟨by simpa using this,rfl⟩)
     (fun e=>by
      rw [h3,hfa];cases a with
      |nil=>
       cases b with
       |nil=>exact absurd rfl e
       |cons y b=>
        show kle x.Zi y.Zi;exact ZfZ ((List.pairwise_cons.1 ha).1 y (by simp))
      |cons y a=>exact Zej) he
    refine ⟨pg',?_⟩;rw [h4,g1,hd,h5];exact r
   ·cases he
 |f+1,h+1,w,w',page,p,fk,ps,pg,hw,⟨n,ks,h1,h2,h3,h4,h5,h6,h7,h8,h9⟩,hn,hl,he=>by
  rw [Zhw,h1] at he;simp only [h2,Bool.false_eq_true,if_false] at he;have hok:=Zcx _ _ h1;rcases ZiD (key:=key) h4 h5 with ⟨g1,g2⟩|⟨pre,s,post,g1,g2,g3,g4,g5⟩
  ·rw [g1,if_pos (by omega)] at he;cases he
  ·rw [g2,if_neg (by omega),Int.toNat_natCast,g5,ZiN h4 h5] at he;have hs:s∈ks:=by rw [g1];simp
   rw [h9] at hn hl;obtain ⟨n1,n2⟩:=List.nodup_cons.1 hn;have hsp:∀q∈s.pages,q∈ks.flatMap Sub.pages:=fun q hq=>List.mem_flatMap.2 ⟨s,hs,hq⟩
   cases hu:Zhw f w s.page key with
   |none=>rw [hu] at he;cases he
   |some r=>
    obtain ⟨w1,k⟩:=r;rw [hu] at he;simp only at he;obtain ⟨hin,pg1,r1⟩:=Zf6 hw (h6 s hs) (ZbA n2 hs) (fun q hq=>hl q (List.mem_cons_of_mem _ (hsp q hq))) hu;obtain ⟨q0,hq0,hk0⟩:=hin;refine ⟨⟨q0,by rw [h8];exact List.mem_flatMap.2 ⟨s,hs,hq0⟩,hk0⟩,?_⟩;have h6':=h6;rw [g1] at h7 h6';obtain ⟨a1,a2⟩:=around Zcx h7 h6' g3 g4;obtain ⟨o1,o2,o3⟩:=Zbv.1 h7;have o4:=List.pairwise_cons.1 o2.2;have hlv:∀q∈ks.flatMap Sub.pages,live B w q:=fun q hq=>hl q (List.mem_cons_of_mem _ hq)
    have hksp:∀q,q∈ks.flatMap Sub.pages↔q∈pre.flatMap Sub.pages∨q∈s.pages∨q∈post.flatMap Sub.pages:=fun q=>by
     rw [g1,List.flatMap_append,List.flatMap_cons];simp only [List.mem_append]
    have hap:∀k∈pre++post,k∈ks∧∀q∈k.pages,q∉s.pages:=fun k hk=>by
     have hk':k∈ks:=by
      rw [g1];rcases List.mem_append.1 hk with h|h
      ·simp [h]
      ·simp [h]
     refine ⟨hk',fun q hq hqs=>?_⟩;rw [g1,List.flatMap_append,List.flatMap_cons] at n2;obtain ⟨_,m1,m2⟩:=List.nodup_append.1 n2;obtain ⟨_,_,m3⟩:=List.nodup_append.1 m1;rcases List.mem_append.1 hk with h|h
     ·exact m2 q (List.mem_flatMap.2 ⟨k,h,hq⟩) q (List.mem_append_left _ hqs) rfl
     ·exact m3 q hqs q (List.mem_flatMap.2 ⟨k,h,hq⟩) rfl
    have hpp:∀q,q∈pre.flatMap Sub.pages∨q∈post.flatMap Sub.pages→q∈ks.flatMap Sub.pages∧q∉s.pages:=fun q hq=>by
     have:∃k∈pre++post,q∈k.pages:=by
      rcases hq with hq|hq
      ·obtain ⟨k,hk,hq⟩:=List.mem_flatMap.1 hq;exact ⟨k,by simp [hk],hq⟩
      ·obtain ⟨k,hk,hq⟩:=List.mem_flatMap.1 hq;exact ⟨k,by simp [hk],hq⟩
     obtain ⟨k,hk,hq⟩:=this;obtain ⟨b1,b2⟩:=hap k hk;exact ⟨List.mem_flatMap.2 ⟨k,b1,hq⟩,b2 q hq⟩
    have hold:∀k∈pre++post,Tre (rdW w1.Zc) h k.page k.fst k.pairs k.pages:=fun k hk=>by
     obtain ⟨b1,b2⟩:=hap k hk;exact (h6 k b1).frame fun q hq=>r1.keep q (hlv q (List.mem_flatMap.2 ⟨k,b1,hq⟩)) (b2 q hq)
    have hlp:live B w page:=hl page (by simp);have hps:page∉s.pages:=fun e=>n1 (hsp page e)
    have hlp1:live B w1 page:=(r1.now page).2 (.inl ⟨hlp,hps⟩);obtain ⟨S,hS1,hS2,hS3,hS4,hS5,hS6⟩:∃S:List Sub,(if k=0 then ((pre++s::post).map ZaZ).eraseIdx pre.length else ((pre++s::post).map ZaZ).set pre.length ((((pre++s::post).map ZaZ).getD pre.length ([],0)).1,k))=S.map ZaZ∧
      ZdS S∧(∀k∈S,Tre (rdW w1.Zc) h k.page k.fst k.pairs k.pages)∧S.flatMap Sub.pairs=ZeI ps key∧
      S.flatMap Sub.pages=pre.flatMap Sub.pages++(pg1++post.flatMap Sub.pages)∧(S≠ []→kle fk (Zah (Z0 (S.map ZaZ)))):=by
     have hmid:ZeI ps key=pre.flatMap Sub.pairs++ZeI s.pairs key++post.flatMap Sub.pairs:=by
      rw [h8,g1,List.flatMap_append,List.flatMap_cons,←List.append_assoc,Znl a1 a2]
     have hasc:=hok.2.2.1;rw [h4,g1] at hasc;have hfk:fk=(((pre++s::post).map Sub.key).headD []):=by rw [h3];unfold Zah;rw [h4,g1]
     rcases r1.tre with ⟨c1,c2,c3⟩|⟨c1,f',c2,c3⟩
     ·refine ⟨pre++post,?_,?_,hold,?_,?_,?_⟩
      ·rw [if_pos c1,List.map_append,List.map_cons];have:=ZnZ (a:=pre.map ZaZ) (b:=post.map ZaZ) (x:=ZaZ s);rw [List.length_map] at this;rw [this,←List.map_append]
      ·exact Zbv.2 ⟨o1,⟨fun k hk=>o2.1 k (by simp [hk]),o4.2⟩,fun x hx y hy=>o3 x hx y (by simp [hy])⟩
      ·rw [hmid,c2];simp
      ·rw [c3];simp
      ·intro hne;rw [hfk];cases pre with
       |cons y l=>exact Zej
       |nil=>
        cases post with
        |nil=>exact absurd rfl hne
        |cons y l=>
         show kle s.key y.key;exact Zjb hasc y.key (by simp)
     ·refine ⟨pre++⟨s.key,k,f',ZeI s.pairs key,pg1⟩::post,?_,?_,?_,?_,?_,?_⟩
      ·rw [if_neg (by omega),List.map_append,List.map_cons];have e1:=ZyN (a:=pre.map ZaZ) (b:=post.map ZaZ) (x:=ZaZ s) (y:=(((((pre.map ZaZ)++ZaZ s::post.map ZaZ)).getD pre.length ([],0)).1,k));rw [List.length_map] at e1;rw [e1];have h:=Zf3 (a:=pre.map ZaZ) (b:=post.map ZaZ) (x:=ZaZ s) (d:=(([]:Key),(0:Int)));rw [List.length_map] at h;rw [h,List.map_append,List.map_cons];rfl
      ·refine Zbv.2 ⟨o1,⟨fun k hk=>?_,List.pairwise_cons.2 ⟨fun y hy q hq=>?_,o4.2⟩⟩,fun x hx y hy q hq=>?_⟩
       ·rcases List.mem_cons.1 hk with rfl|hk
        ·exact Zdl (o2.1 s (by simp)) c2
        ·exact o2.1 k (by simp [hk])
       ·exact o4.1 y hy q (List.mem_filter.1 hq).1
       ·rcases List.mem_cons.1 hy with rfl|hy
        ·exact o3 x hx s (by simp) q hq
        ·exact o3 x hx y (by simp [hy]) q hq
      ·intro k hk;rcases List.mem_append.1 hk with hk|hk
       ·exact hold k (by simp [hk])
       ·rcases List.mem_cons.1 hk with rfl|hk
        ·exact c3
        ·exact hold k (by simp [hk])
      ·rw [hmid];simp [List.flatMap_append,List.flatMap_cons,List.append_assoc]
      ·simp [List.flatMap_append,List.flatMap_cons]
      ·intro _;rw [hfk];cases pre with
       |cons y l=>exact Zej
       |nil=>exact Zej
    rw [g1,hS1] at he;have hSp:∀q,q∈S.flatMap Sub.pages↔q∈pre.flatMap Sub.pages∨q∈pg1∨q∈post.flatMap Sub.pages:=fun q=>by rw [hS5];simp only [List.mem_append]
    have hnd:(S.flatMap Sub.pages).Nodup:=by
     rw [hS5,List.nodup_append,List.nodup_append];rw [g1,List.flatMap_append,List.flatMap_cons] at n2;obtain ⟨m0,m1,m2⟩:=List.nodup_append.1 n2;obtain ⟨_,m4,m3⟩:=List.nodup_append.1 m1;refine ⟨m0,⟨r1.nodup,m4,fun a ha b hb e=>?_⟩,fun a ha b hb e=>?_⟩
     ·subst e;obtain ⟨b1,b2⟩:=hpp a (.inr hb);exact r1.new a ha ⟨hlv a b1,b2⟩
     ·subst e;rcases List.mem_append.1 hb with hb|hb
      ·obtain ⟨b1,b2⟩:=hpp a (.inl ha);exact r1.new a hb ⟨hlv a b1,b2⟩
      ·exact m2 a ha a (List.mem_append_right _ hb) rfl
    obtain ⟨pg',r⟩:=ZnX (h:=h+1) (f:=fk) r1.ok (Zc8 hS3 hS2) hnd
     (fun q hq=>by
      rw [hSp] at hq;rw [r1.now];rcases hq with hq|hq|hq
      ·obtain ⟨b1,b2⟩:=hpp q (.inl hq);exact .inl ⟨hlv q b1,b2⟩
      ·exact .inr hq
      ·obtain ⟨b1,b2⟩:=hpp q (.inr hq);exact .inl ⟨hlv q b1,b2⟩)
     hlp1 (by
      rw [hSp];simp only [not_or];exact ⟨fun e=>n1 (hpp page (.inl e)).1,fun e=>r1.new page e ⟨hlp,hps⟩,fun e=>n1 (hpp page (.inr e)).1⟩)
     (fun e=>by
      rw [Zfb] at e;have:S=[]:=by simpa using e
      subst this;exact ⟨rfl,rfl⟩)
     (fun e=>hS6 fun e2=>e (by rw [e2];rfl)) he
    refine ⟨pg',?_⟩;rw [hS4] at r;refine ⟨r.ok,r.tre,r.nodup,fun q=>?_,fun q hq=>?_,fun q hq ho=>?_,fun q hq=>?_⟩
    ·rw [r.now,r1.now,h9];simp only [List.mem_cons,not_or,hSp,hksp];constructor
     ·rintro (⟨h|h,h2,h3,h4,h5⟩|h)
      ·exact .inl ⟨h.1,h2,h3,h.2,h5⟩
      ·exact absurd h h4
      ·exact .inr h
     ·rintro (⟨b0,b2,b3,b4,b5⟩|h)
      ·exact .inl ⟨.inl ⟨b0,b4⟩,b2,b3,fun e=>r1.new q e ⟨b0,b4⟩,b5⟩
      ·exact .inr h
    ·rw [h9];simp only [List.mem_cons,not_or,hksp];rintro ⟨b1,b2,b3,b4,b5⟩;refine r.new q hq ⟨(r1.now q).2 (.inl ⟨b1,b4⟩),?_⟩;simp only [List.mem_cons,not_or,hSp];exact ⟨b2,b3,fun e=>r1.new q e ⟨b1,b4⟩,b5⟩
    ·rw [h9] at ho;simp only [List.mem_cons,not_or,hksp] at ho;obtain ⟨b2,b3,b4,b5⟩:=ho;rw [r.keep q ((r1.now q).2 (.inl ⟨hq,b4⟩)) (by simp only [List.mem_cons,not_or,hSp];exact ⟨b2,b3,fun e=>r1.new q e ⟨hq,b4⟩,b5⟩),r1.keep q hq b4]
    ·rw [r.far q hq,r1.far q hq]
def topU:Nat→ZS→Int→ZS×Int
 |0,w,top=>(w,top)
 |f+1,w,top=>if top=0 then (w,0) else match rdW w.Zc top with
  |none=>(w,top)
  |some n=>if n.Zn=true∨1<n.Zk.length then (w,top) else topU f (ZbP w top) (n.Zk.headD 0)
def Zn6 (w:ZS) (root:Int) (key:Key):Option (ZS×Int):=if root=0 then none else (Zhw 8 w root key).map fun r=>topU 8 r.1 r.2
theorem ZmJ {ours:Int→Prop} {B:List Int}:∀ {f h:Nat} {w:ZS} {top:Int} {fk:Key} {ps:List ZR} {pg:List Int},h<f→h<8→2≤top→WOK ours B w→Tre (rdW w.Zc) h top fk ps pg→pg.Nodup→(∀q,live B w q↔q∈pg)→
  ∃pg',Txs ours B (topU f w top).1 (topU f w top).2 ps pg'∧(topU f w top).1.Zc=w.Zc
 |f+1,0,w,top,fk,ps,pg,hf,h8,h2,hw,ht,hn,hl=>by
  have ht':=ht;obtain ⟨n,h1,hleaf,h3,h4,h5⟩:=ht;rw [topU,if_neg (by omega),h1];simp only;rw [if_pos (.inl hleaf)];exact ⟨pg,⟨hw,.inr ⟨by simp only;omega,hn,0,fk,h8,ht'⟩,hl⟩,rfl⟩
 |f+1,h+1,w,top,fk,ps,pg,hf,h8,h2,hw,ht,hn,hl=>by
  have ht':=ht;obtain ⟨n,ks,h1,hleaf,h3,h4,h5,h6,h7,h8',h9⟩:=ht;rw [topU,if_neg (by omega),h1];simp only;by_cases hc:n.Zn=true∨1<n.Zk.length
  ·rw [if_pos hc];exact ⟨pg,⟨hw,.inr ⟨by simp only;omega,hn,h+1,fk,h8,ht'⟩,hl⟩,rfl⟩
  ·rw [if_neg hc];have hok:=Zcx _ _ h1;obtain ⟨k,rfl⟩:∃k,ks=[k]:=by
    have h10:=hok.1;rw [h4,List.length_map] at h10;have h11:¬1<n.Zk.length:=fun e=>hc (.inr e)
    rw [h5,List.length_map] at h11
    match ks,h10,h11 with
    |[k],_,_=>exact ⟨k,rfl⟩
    |_::_::_,_,h=>simp at h
   have hk:=h6 k (by simp);have hkid:n.Zk.headD 0=k.page:=by rw [h5];rfl
   rw [hkid];simp only [List.flatMap_cons,List.flatMap_nil,List.append_nil] at h8' h9;rw [h9] at hn hl;obtain ⟨n1,n2⟩:=List.nodup_cons.1 hn;obtain ⟨d1,d2⟩:=ZeP hw ((hl top).2 (by simp));have h5':=hok.2.2.2.2;rw [if_neg (by rw [hleaf];simp)] at h5';have hk2:=(h5'.2.2.1 k.page (by rw [h5];simp)).1;obtain ⟨pg',r1,r2⟩:=ZmJ (f:=f) (h:=h) (w:=ZbP w top) (by omega) (by omega) hk2 d1 (by rw [ZbI];exact hk) n2 (fun q=>by
    rw [d2,hl,List.mem_cons];constructor
    ·rintro ⟨h|h,h2⟩
     ·exact absurd h h2
     ·exact h
    ·exact fun h=>⟨.inr h,fun e=>n1 (e▸h)⟩)
   rw [h8'];exact ⟨pg',r1,by rw [r2,ZbI]⟩
theorem Zsv {ours:Int→Prop} {B:List Int} {w w':ZS} {root r':Int} {ps:List ZR} {pg:List Int} {key:Key} (h:Txs ours B w root ps pg) (he:Zn6 w root key=some (w',r')):
  (∃q∈ps,q.Zi=key)∧∃pg',Txs ours B w' r' (ZeI ps key) pg'∧∀q,¬ours q→rdW w'.Zc q=rdW w.Zc q:=by
 unfold Zn6 at he;split at he
 ·cases he
 ·rename_i hr;rcases h.tree with ⟨h1,_⟩|⟨h1,h2,ht,f,h3,h4⟩
  ·exact absurd h1 hr
  ·cases hu:Zhw 8 w root key with
   |none=>rw [hu] at he;cases he
   |some r=>
    obtain ⟨w1,k⟩:=r;rw [hu] at he;simp only [Option.map_some,Option.some.injEq] at he;obtain ⟨hin,pg1,r⟩:=Zf6 h.ok h4 h2 (fun q hq=>(h.now q).2 hq) hu;refine ⟨hin,?_⟩;have hlive:∀q,live B w1 q↔q∈pg1:=fun q=>by
     rw [r.now];constructor
     ·rintro (⟨h5,h6⟩|h5)
      ·exact absurd ((h.now q).1 h5) h6
      ·exact h5
     ·exact .inr
    rcases r.tre with ⟨c1,c2,c3⟩|⟨c1,f',c2,c3⟩
    ·rw [c1] at he;simp only [topU,if_true,Prod.mk.injEq] at he;obtain ⟨rfl,rfl⟩:=he;exact ⟨pg1,⟨r.ok,.inl ⟨rfl,c2,c3⟩,hlive⟩,r.far⟩
    ·obtain ⟨pg',e1,e2⟩:=ZmJ (f:=8) h3 h3 c1 r.ok c3 r.nodup hlive;rw [he] at e1 e2;exact ⟨pg',e1,fun q hq=>by simp only at e2;rw [e2,r.far q hq]⟩
end Go.Rx
namespace Go.Rx
open Go
def insR (s:List Int) (x:Int):List Int:=(s.takeWhile fun y=>decide (y≤x))++x::s.dropWhile fun y=>decide (y≤x)
def ZaP (l:List Int):List Int:=l.foldl insR []
def leS (l:List Int):Prop:=l.Pairwise (·≤·)
theorem Zwv {x:Int}:∀ {s:List Int},∀y∈s.takeWhile (fun y=>decide (y≤x)),y≤x
 |s,y,hy=>by
  have:=List.all_eq_true.1 (List.all_takeWhile (p:=fun y=>decide (y≤x)) (l:=s)) y hy;simpa using this
theorem Zrj {x:Int}:∀ {s:List Int},leS s→∀y∈s.dropWhile (fun y=>decide (y≤x)),x<y
 |[],_,y,hy=>by cases hy
 |z::s,hs,y,hy=>by
  obtain ⟨h1,h2⟩:=List.pairwise_cons.1 hs;rw [List.dropWhile_cons] at hy;by_cases hz:z≤x
  ·rw [if_pos (decide_eq_true hz)] at hy;exact Zrj h2 y hy
  ·rw [if_neg (by simpa using hz)] at hy;rcases List.mem_cons.1 hy with rfl|hy
   ·omega
   ·have:=h1 y hy;omega
theorem Zu5 {s:List Int} {x:Int}:(insR s x).Perm (x::s):=by
 unfold insR;refine List.perm_middle.trans ?_;rw [List.takeWhile_append_dropWhile]
theorem Zpe {s:List Int} {x:Int} (h:leS s):leS (insR s x):=by
 unfold insR;have hs:leS (s.takeWhile (fun y=>decide (y≤x))++s.dropWhile (fun y=>decide (y≤x))):=by rw [List.takeWhile_append_dropWhile];exact h
 obtain ⟨h1,h2,h3⟩:=List.pairwise_append.1 hs;unfold leS;rw [List.pairwise_append,List.pairwise_cons];refine ⟨h1,⟨fun y hy=>by have:=Zrj h y hy;omega,h2⟩,fun a ha b hb=>?_⟩;rcases List.mem_cons.1 hb with rfl|hb
 ·exact Zwv a ha
 ·exact h3 a ha b hb
theorem Zzg {s:List Int} {x:Int} {k:Nat} (h:leS s) (hk:k≤s.length) (h1:∀y∈s.drop k,x<y) (h2:k=0∨∃y,s[k - 1]? =some y∧y≤x):insR s x=s.take k++x::s.drop k:=by
 have hle:∀y∈s.take k,y≤x:=by
  rcases h2 with h2|⟨z,hz,hzx⟩
  ·subst h2;simp
  ·intro y hy;obtain ⟨i,hi⟩:=List.getElem?_of_mem hy;rw [List.getElem?_take] at hi;split at hi
   ·rename_i hik;obtain ⟨hi1,rfl⟩:=List.getElem?_eq_some_iff.1 hi;obtain ⟨hz1,rfl⟩:=List.getElem?_eq_some_iff.1 hz;by_cases e:i=k - 1
    ·subst e;exact hzx
    ·have:=List.pairwise_iff_getElem.1 h i (k - 1) hi1 hz1 (by omega);omega
   ·cases hi
 have e1:s.takeWhile (fun y=>decide (y≤x))=s.take k:=by
  conv=>lhs;rw [←List.take_append_drop k s]
  rw [List.takeWhile_append_of_pos (fun y hy=>decide_eq_true (hle y hy))];cases hd:s.drop k with
  |nil=>simp
  |cons z l=>
   have:=h1 z (by rw [hd];simp);rw [List.takeWhile_cons,if_neg (by simp;omega)];simp
 have e2:s.dropWhile (fun y=>decide (y≤x))=s.drop k:=by
  conv=>lhs;rw [←List.take_append_drop k s]
  rw [List.dropWhile_append_of_pos (fun y hy=>decide_eq_true (hle y hy))];cases hd:s.drop k with
  |nil=>simp
  |cons z l=>
   have:=h1 z (by rw [hd];simp);rw [List.dropWhile_cons,if_neg (by simp;omega)]
 unfold insR;rw [e1,e2]
theorem ZrF {l:List Int} {i:Nat} {x:Int} (h:l[i]? =some x):ZaP (l.take (i+1))=insR (ZaP (l.take i)) x:=by
 rw [Z7 h,ZaP,List.foldl_append];rfl
theorem Zix:∀ {l s:List Int},leS s→leS (l.foldl insR s)
 |[],s,h=>h
 |x::l,s,h=>Zix (l:=l) (Zpe h)
theorem Zls:∀ {l s:List Int},(l.foldl insR s).Perm (s++l)
 |[],s=>by simp
 |x::l,s=>by
  rw [List.foldl_cons];refine (Zls (l:=l) (s:=insR s x)).trans ?_;refine (List.Perm.append_right l Zu5).trans ?_;exact List.perm_middle.symm
theorem Zfm {l:List Int}:leS (ZaP l):=Zix List.Pairwise.nil
theorem Zbs {l:List Int}:(ZaP l).Perm l:=by
 have:=Zls (l:=l) (s:=[]);rw [List.nil_append] at this;exact this
theorem Zbw {l:List Int}:(ZaP l).length=l.length:=Zbs.length_eq
theorem Zgj : ∀ {a b : List Int}, leS a → leS b → a.Perm b → a = b
  | [], b, _, _, h => h.nil_eq
  | x :: a, b, ha, hb, h => by
    cases b with
    | nil => exact absurd h.length_eq (by simp)
    | cons y b =>
      obtain ⟨a1, a2⟩ := List.pairwise_cons.1 ha;obtain ⟨b1, b2⟩ := List.pairwise_cons.1 hb;have hx : x ∈ y :: b := h.subset (by simp);have hy : y ∈ x :: a := h.symm.subset (by simp);have e : x = y := by
        have h1 : y ≤ x := by rcases List.mem_cons.1 hx with rfl | hx; · exact Int.le_refl _
                              · exact b1 x hx
        have h2 : x ≤ y := by rcases List.mem_cons.1 hy with rfl | hy; · exact Int.le_refl _
                              · exact a1 y hy
        omega
      subst e;rw [Zgj a2 b2 (List.Perm.cons_inv h)]
theorem ZoQ {l:List Int} {p:Int} (h:l.Pairwise (·< ·)) (hp:p∉l):ZaP (l++[p])=Zpf l p:=by
 refine Zgj Zfm ?_ (Zbs.trans ?_)
 ·exact (Ziu h hp).imp fun h=>Int.le_of_lt h
 ·unfold Zpf;refine List.perm_append_comm.trans ?_;refine List.Perm.symm (List.perm_middle.trans ?_);rw [List.takeWhile_append_dropWhile];rfl
theorem ZyF {s rest:List Int} {x y:Int} {k:Nat} (hk:0<k) (hks:k≤s.length) (hy:s[k - 1]? =some y):
  ((s.take k++x::(s.drop k++rest)).set k y).set (k - 1) x=s.take (k - 1)++x::(s.drop (k - 1)++rest):=by
 obtain ⟨j,rfl⟩:∃j,k=j+1:=⟨k - 1,by omega⟩;simp only [Nat.add_sub_cancel] at hy ⊢;have hj:j<s.length:=by omega
 have e1:s.take (j+1)=s.take j++[y]:=Z7 hy;have e2:s.drop j=y::s.drop (j+1):=ZbU hy;have hl:(s.take j).length=j:=by simp;omega
 rw [e1,e2,List.append_assoc];have g1:(s.take j++([y]++x::(s.drop (j+1)++rest))).set (j+1) y=s.take j++([y]++y::(s.drop (j+1)++rest)):=by
  rw [List.set_append_right _ _ (by omega),hl];simp
 rw [g1,List.set_append_right _ _ (by omega),hl];simp
end Go.Rx
namespace Go.Rx
open Go
def Zee (n:Int) (ps:List Key) (l:List GPut):List Key:=l.foldl (fun ps q=>if 0≤q.Zu∧q.Zu≤n - 1 then ps.set q.Zu.toNat q.ZC else ps) ps
def Za6 (d:ZT):ZT:=⟨Zee d.Zv.length d.Zv d.Zm,[]⟩
theorem ZfN {n:Int}:∀ {l:List GPut} {ps:List Key},(Zee n ps l).length=ps.length
 |[],ps=>rfl
 |q::l,ps=>by
  show (Zee n (if 0≤q.Zu∧q.Zu≤n - 1 then ps.set q.Zu.toNat q.ZC else ps) l).length=_;rw [ZfN];split
  ·simp
  ·rfl
theorem Zji {n:Int} {l:List GPut} {ps:List Key} {q:GPut}:Zee n ps (l++[q])=if 0≤q.Zu∧q.Zu≤n - 1 then (Zee n ps l).set q.Zu.toNat q.ZC else Zee n ps l:=by
 simp only [Zee,List.foldl_append,List.foldl_cons,List.foldl_nil]
theorem ZwF {α:Type} {P:List α→Prop} (h0:P []) (h1:∀l a,P l→P (l++[a])) (l:List α):P l:=by
 rw [←List.reverse_reverse l];induction l.reverse with
 |nil=>exact h0
 |cons a t ih=>rw [List.reverse_cons];exact h1 _ _ ih
theorem Zww {n:Nat} {ps:List Key} (hn:ps.length=n) {p:Int} (h0:0≤p) (h1:p≤(n:Int) - 1) (l:List GPut):(Zee n ps l).getD p.toNat []=(Zbi l p).getD (ps.getD p.toNat []):=by
 refine ZwF (P:=fun l=>(Zee n ps l).getD p.toNat []=(Zbi l p).getD (ps.getD p.toNat [])) rfl (fun l q ih=>?_) l;rw [Zji,Ze6];have hl:p.toNat<(Zee n ps l).length:=by rw [ZfN];omega
 by_cases hq:0≤q.Zu∧q.Zu≤(n:Int) - 1
 ·rw [if_pos hq];by_cases e:q.Zu=p
  ·rw [if_pos e,e];simp only [List.getD,Option.getD_some];rw [List.getElem?_set_self hl];rfl
  ·rw [if_neg e,←ih];simp only [List.getD];rw [List.getElem?_set_ne (by omega)]
 ·rw [if_neg hq,ih];have:¬q.Zu=p:=fun e=>hq (e▸⟨h0,h1⟩)
  rw [if_neg this]
theorem Zbb {d:ZT}:(Za6 d).Zv.length=d.Zv.length:=ZfN
theorem ZcX {d:ZT} (p:Int):ZU (Za6 d) p=ZU d p:=by
 unfold ZU;have e:Za9 (Za6 d) p↔Za9 d p:=by unfold Za9;rw [Zbb]
 by_cases h:Za9 d p
 ·rw [if_pos h,if_pos (e.2 h)];show (Zbi [] p).getD _=_;rw [Zdi,Option.getD_none];exact Zww rfl h.1 h.2 d.Zm
 ·rw [if_neg h,if_neg fun h2=>h (e.1 h2)]
theorem Zwy {d:ZT}:rdW (Za6 d)=rdW d:=by funext p;unfold rdW;rw [ZcX]
theorem ZmL {n:Int} {ps:List Key} {m:Nat} (h1:∀s∈ps,s.length≤m) {l:List GPut} (h2:∀q∈l,q.ZC.length≤m):∀s∈Zee n ps l,s.length≤m:=by
 induction l generalizing ps with
 |nil=>exact h1
 |cons q l ih=>
  show ∀s∈Zee n (if 0≤q.Zu∧q.Zu≤n - 1 then ps.set q.Zu.toNat q.ZC else ps) l,s.length≤m;refine ih ?_ fun q hq=>h2 q (by simp [hq])
  intro s hs;split at hs
  ·rcases List.mem_or_eq_of_mem_set hs with hs|rfl
   ·exact h1 s hs
   ·exact h2 q (by simp)
  ·exact h1 s hs
theorem Zg0 {d:ZT} (h:Za5 d):Za5 (Za6 d):=by
 obtain ⟨h1,h2,h3,h4,h5⟩:=h;refine ⟨by rw [Zbb];exact h1,by rw [Zbb];exact h2,by simp [Za6],ZmL h4 fun q hq=>(h5 q hq).2,by simp [Za6]⟩
def Zxr (w:ZS) (p:Int):ZS:=if p∈w.Zf then {w with Zf:=w.Zf.filter fun q=> !decide (q=p),ZH:=ZaP (w.ZH++[p])} else {w with Zg:=w.Zg++[p]}
theorem ZcL {ours:Int→Prop} {B:List Int} {w:ZS} {p:Int} (h:WOK ours B w):Zxr w p=ZbP w p:=by
 unfold Zxr ZbP;split
 ·rename_i hf;rw [ZoQ h.usable (h.apart p hf)]
 ·rfl
def Zdq (d:ZT) (m:ZX) (oldest:Int):ZS:=⟨d,m.Zs,ZaP ((m.Ze.filter fun f=>decide (f.ZF≤oldest)).flatMap (·.Zv)),[],[]⟩
end Go.Rx
namespace Go.Rx
open Go
theorem ZfG:∀ {n:Nat} {l:List Int},l.Nodup→(∀x∈l,0≤x∧x<n)→l.length≤n
 |0,l,_,h=>by
  cases l with
  |nil=>simp
  |cons x l=>have:=h x (by simp);omega
 |n+1,l,hn,h=>by
  have h1:(l.erase (n:Int)).length≤n:=ZfG (hn.erase _) fun x hx=>by
   have hx':=(List.Nodup.mem_erase_iff hn).1 hx;have:=h x hx'.2;have hne:x≠(n:Int):=hx'.1;omega
  have h2:=List.length_erase (a:=(n:Int)) (l:=l);split at h2<;>omega
theorem WOK.few {ours:Int→Prop} {B:List Int} {w:ZS} (h:WOK ours B w):w.Zf.length≤40∧w.ZH.length≤40:=by
 have h1:=h.nextL;have h2:=h.disk.2.1;constructor
 ·refine ZfG h.fresh fun x hx=>?_;have:=h.small x (.inl hx);omega
 ·refine ZfG (h.usable.imp fun h=>by omega) fun x hx=>?_;have:=h.small x (.inr hx);omega
theorem WOK.goneLen {ours:Int→Prop} {B:List Int} {w:ZS} (h:WOK ours B w):w.Zg.length≤B.length:=by
 have:∀ {l m:List Int},l.Nodup→(∀x∈l,x∈m)→l.length≤m.length:=by
  intro l;induction l with
  |nil=>intro m _ _;simp
  |cons a l ih=>
   intro m hn hm;obtain ⟨n1,n2⟩:=List.nodup_cons.1 hn;have ham:=hm a (by simp);have h1:=ih (m:=m.erase a) n2 fun x hx=>by
    have hne:x≠a:=fun e=>n1 (by rw [←e];exact hx)
    exact (List.mem_erase_of_ne hne).2 (hm x (by simp [hx]))
   have h2:=List.length_erase_of_mem ham;have h3:0<m.length:=List.length_pos_of_mem ham;simp only [List.length_cons];omega
 exact this h.gone h.goneB
theorem WOK.smallW {ours:Int→Prop} {B:List Int} {w:ZS} (h:WOK ours B w) (hB:B.length≤1000):smallW w:=by
 obtain ⟨f1,f2⟩:=h.few;have f3:=h.goneLen;have h2:=h.disk.2.1;have h3:=h.disk.2.2.1;exact ⟨⟨by omega,by omega⟩,by omega,by omega,by omega⟩
theorem Zay {d:ZT} (h:Za5 d) (p:Int):(ZU d p).length≤240:=by
 obtain ⟨_,_,_,h1,h2⟩:=h;unfold ZU;split
 ·cases hl:Zbi d.Zm p with
  |some s=>
   unfold Zbi at hl;cases hf:d.Zm.reverse.find? fun q=>decide (q.Zu=p) with
   |none=>rw [hf] at hl;cases hl
   |some q=>
    rw [hf] at hl;simp only [Option.map_some,Option.some.injEq] at hl;subst hl;exact (h2 q (by simpa using List.mem_of_find?_eq_some hf)).2
  |none=>
   simp only [Option.getD_none,List.getD_eq_getElem?_getD];cases hg:d.Zv[p.toNat]? with
   |none=>simp
   |some s=>exact h1 s (List.mem_of_getElem? hg)
 ·simp
theorem ZiW {ours:Int→Prop} {B:List Int}:∀ {ns:List Z1} {w w':ZS} {ks:List (Key×Int)},WOK ours B w→putS w ns=some (w',ks)→WOK ours B w'∧(∀q,live B w q→live B w' q)∧ks.length=ns.length
 |[],w,w',ks,h,he=>by
  simp only [putS,Option.some.injEq,Prod.mk.injEq] at he;obtain ⟨rfl,rfl⟩:=he;exact ⟨h,fun _ h=>h,rfl⟩
 |n::ns,w,w',ks,h,he=>by
  rw [putS] at he;split at he
  ·cases he
  ·rename_i w1 p hp;split at he
   ·cases he
   ·rename_i w2 ks2 hs;simp only [Option.some.injEq,Prod.mk.injEq] at he;obtain ⟨rfl,rfl⟩:=he;have g:=ZeD h hp;obtain ⟨h1,h2,h3⟩:=ZiW g.ok hs;exact ⟨h1,fun q hq=>h2 q ((g.now q).2 (.inl hq)),by simp [h3]⟩
def ZbS (es:List (Key×Int)) (at_:Nat) (kk:List (Key×Int)) (i:Nat):List (Key×Int):=
 if i≤at_ then es.take i else es.take at_++((kmin (es.getD at_ ([],0)).1 (kk.headD ([],0)).1,(kk.headD ([],0)).2)::kk.drop 1++(es.drop (at_+1)).take (i - (at_+1)))
theorem ZeM {es:List (Key×Int)} {at_:Nat} {kk:List (Key×Int)} (h:at_<es.length):ZbS es at_ kk es.length=ZeN es at_ kk:=by
 unfold ZbS ZeN;have e:(es.drop (at_+1)).take (es.length - (at_+1))=es.drop (at_+1):=List.take_of_length_le (by rw [List.length_drop];omega);rw [if_neg (by omega),e];simp [List.append_assoc]
theorem Zi1 {es:List (Key×Int)} {at_ i:Nat} {kk:List (Key×Int)} {e:Key×Int} (h:es[i]? =some e) (hi:i≠at_):ZbS es at_ kk (i+1)=ZbS es at_ kk i++[e]:=by
 unfold ZbS;by_cases hlt:i<at_
 ·rw [if_pos (by omega),if_pos (by omega),Z7 h]
 ·rw [if_neg (by omega),if_neg (by omega)];have e1:i+1 - (at_+1)=(i - (at_+1))+1:=by omega
  have e2:(es.drop (at_+1))[i - (at_+1)]? =some e:=by rw [List.getElem?_drop];rw [show at_+1+(i - (at_+1))=i by omega];exact h
  rw [e1,Z7 e2];simp [List.append_assoc]
theorem Zi2 {es:List (Key×Int)} {at_:Nat} {kk:List (Key×Int)}:ZbS es at_ kk (at_+1)=ZbS es at_ kk at_++((kmin (es.getD at_ ([],0)).1 (kk.headD ([],0)).1,(kk.headD ([],0)).2)::kk.drop 1):=by
 unfold ZbS;rw [if_neg (by omega),if_pos (Nat.le_refl _)];simp
theorem ZeL {es:List (Key×Int)} {at_ i:Nat} {kk:List (Key×Int)} (h:i≤es.length):(ZbS es at_ kk i).length≤es.length+kk.length+1:=by
 unfold ZbS;split
 ·simp;omega
 ·simp;omega
end Go.Rx
namespace Go.Rx
open Go
def Zpc (e:Key×Int):GKid:=⟨e.1,e.2⟩
theorem ZjL:∀ {bs:List (List ZR)} {w:ZS} {out:List GKid},(∀b∈bs,b≠ [])→ZbH w out bs=(putS w (bs.map Za2)).map fun r=>(r.1,out++r.2.map Zpc)
 |[],w,out,_=>by simp [ZbH,putS]
 |b::bs,w,out,h=>by
  rw [ZbH,List.map_cons,putS];cases hp:putN w (Za2 b) with
  |none=>rfl
  |some q=>
   obtain ⟨w1,p⟩:=q;simp only;rw [ZjL fun b hb=>h b (by simp [hb])];have hk:key1 b=Zah (Za2 b):=by
    cases b with
    |nil=>exact absurd rfl (h [] (by simp))
    |cons x l=>rfl
   cases putS w1 (bs.map Za2) with
   |none=>rfl
   |some r=>simp [Zpc,hk]
theorem Zlf:∀ {bs:List (List GKid)} {w:ZS} {out:List GKid},(∀b∈bs,b≠ [])→Zcz w out bs=(putS w (bs.map kidB)).map fun r=>(r.1,out++r.2.map Zpc)
 |[],w,out,_=>by simp [Zcz,putS]
 |b::bs,w,out,h=>by
  rw [Zcz,List.map_cons,putS];cases hp:putN w (kidB b) with
  |none=>rfl
  |some q=>
   obtain ⟨w1,p⟩:=q;simp only;rw [Zlf fun b hb=>h b (by simp [hb])];have hk:Zy2 b=Zah (kidB b):=by
    cases b with
    |nil=>exact absurd rfl (h [] (by simp))
    |cons x l=>rfl
   cases putS w1 (bs.map kidB) with
   |none=>rfl
   |some r=>simp [Zpc,hk]
theorem Zkf {α:Type}:∀(n:Nat) (l:List α),l.length≤n→∀b∈ZaR l,b≠ []
 |0,l,h,b,hb=>by
  have:l=[]:=List.eq_nil_of_length_eq_zero (by omega);rw [this,ZbJ] at hb;cases hb
 |n+1,l,h,b,hb=>by
  by_cases hl:l=[]
  ·rw [hl,ZbJ] at hb;cases hb
  ·rw [Zcc hl] at hb;have:0<l.length:=List.length_pos_iff.2 hl;rcases List.mem_cons.1 hb with rfl|hb
   ·intro e;have:=congrArg List.length e;rw [List.length_take,List.length_nil] at this;omega
   ·exact Zkf n (l.drop 4) (by rw [List.length_drop];omega) b hb
theorem ZgS {α:Type}:∀(n:Nat) (l:List α),l.length≤n→(ZaR l).flatten=l
 |0,l,h=>by
  have:l=[]:=List.eq_nil_of_length_eq_zero (by omega);rw [this,ZbJ];rfl
 |n+1,l,h=>by
  by_cases hl:l=[]
  ·rw [hl,ZbJ];rfl
  ·have:0<l.length:=List.length_pos_iff.2 hl;rw [Zcc hl,List.flatten_cons,ZgS n (l.drop 4) (by rw [List.length_drop];omega),List.take_append_drop]
theorem ZlC {α β:Type} {f:α→β}:∀(n:Nat) (l:List α),l.length≤n→ZaR (l.map f)=(ZaR l).map (List.map f)
 |0,l,h=>by
  have:l=[]:=List.eq_nil_of_length_eq_zero (by omega);rw [this];simp [ZbJ]
 |n+1,l,h=>by
  by_cases hl:l=[]
  ·rw [hl];simp [ZbJ]
  ·have:0<l.length:=List.length_pos_iff.2 hl;rw [Zcc hl,Zcc (by simpa using hl),List.map_cons,←List.map_take,←List.map_drop,ZlC n (l.drop 4) (by rw [List.length_drop];omega)]
theorem ZoJ {l m:List Int} (hn:l.Nodup) (hm:∀x∈l,x∈m):l.length≤m.length:=by
 induction l generalizing m with
 |nil=>simp
 |cons a l ih=>
  obtain ⟨n1,n2⟩:=List.nodup_cons.1 hn;have ham:=hm a (by simp);have h1:=ih (m:=m.erase a) n2 fun x hx=>by
   have hne:x≠a:=fun e=>n1 (by rw [←e];exact hx)
   exact (List.mem_erase_of_ne hne).2 (hm x (by simp [hx]))
  have h2:=List.length_erase_of_mem ham;have h3:0<m.length:=List.length_pos_of_mem ham;simp only [List.length_cons];omega
structure Row (ours:Int→Prop) (B:List Int) (w w':ZS) (h:Nat) (subs:List Sub) (ps:List ZR):Prop where
 ok:WOK ours B w'
 tre:∀s∈subs,Tre (rdW w'.Zc) h s.page s.fst s.pairs s.pages
 key:∀s∈subs,s.key=s.fst
 hd:∀s∈subs,∃x l,s.pairs=x::l∧x.Zi=s.fst
 pairs:subs.flatMap Sub.pairs=ps
 nodup:(subs.flatMap Sub.pages).Nodup
 fresh:∀q∈subs.flatMap Sub.pages,¬live B w q∧ours q
 now:∀q,live B w' q↔live B w q∨q∈subs.flatMap Sub.pages
 rd:∀q,q∉subs.flatMap Sub.pages→rdW w'.Zc q=rdW w.Zc q
 two:∀s∈subs,2≤s.page
theorem Zt7 {subs:List Sub} (hk:∀s∈subs,s.key=s.fst) (hd:∀s∈subs,∃x l,s.pairs=x::l∧x.Zi=s.fst) (ha:ascP (subs.flatMap Sub.pairs)):ZdS subs:=by
 refine ⟨fun s hs=>by rw [hk s hs];exact Zej,?_⟩;induction subs with
 |nil=>exact List.Pairwise.nil
 |cons s subs ih=>
  rw [List.flatMap_cons] at ha;obtain ⟨a1,a2,a3⟩:=List.pairwise_append.1 ha;refine List.pairwise_cons.2 ⟨fun t hts q hq=>?_,ih (fun x hx=>hk x (by simp [hx])) (fun x hx=>hd x (by simp [hx])) a2⟩;obtain ⟨x,l,hx,hxf⟩:=hd t (by simp [hts]);rw [hk t (by simp [hts]),←hxf];exact a3 q hq x (List.mem_flatMap.2 ⟨t,hts,by rw [hx];simp⟩)
def kidS (s:Sub):GKid:=Zpc (ZaZ s)
theorem ZuV {b:List Sub}:kidB (b.map kidS)=Z0 (b.map ZaZ):=by
 simp [kidB,Z0,kidS,Zpc,ZaZ,Function.comp_def]
theorem ZqI {ours:Int→Prop} {B:List Int} {w0 w w':ZS} {h:Nat} {parts:List Part} {subs:List Sub} {below:List Int} {ps:List ZR} (r:Zyj ours B w w' h parts subs)
  (hC:parts.flatMap Part.C=below) (hps:parts.flatMap Part.ps=ps) (hl:∀q∈below,live B w q)
  (hfr:∀q∈below,¬live B w0 q∧ours q) (hnow:∀q,live B w q↔live B w0 q∨q∈below) (hrd:∀q,q∉below→rdW w.Zc q=rdW w0.Zc q)
  (hhd:∀x∈parts,∃y l,x.ps=y::l∧y.Zi=Zah x.n):Row ours B w0 w' h subs ps:=by
 have hpg:∀q,q∈subs.flatMap Sub.pages↔q∈subs.map Sub.page∨q∈below:=fun q=>by rw [r.pages,hC]
 refine ⟨r.ok,r.tre,r.key,?_,by rw [List.flatMap_def,r.pairs,←List.flatMap_def,hps],r.nodup,fun q hq=>?_,fun q=>?_,fun q hq=>?_,r.two⟩
 ·have e1:=r.pairs;have e2:=r.fst;clear r hpg hC hps;intro s hs;obtain ⟨i,hi,rfl⟩:=List.mem_iff_getElem.1 hs;have hlen:subs.length=parts.length:=by simpa using congrArg List.length e1
  obtain ⟨y,l,h1,h2⟩:=hhd (parts[i]'(by omega)) (List.getElem_mem _);have g1:subs[i].pairs=(parts[i]'(by omega)).ps:=by
   have:=congrArg (fun l=>l[i]?) e1;simpa [List.getElem?_eq_getElem hi,List.getElem?_eq_getElem (show i<parts.length by omega)] using this
  have g2:subs[i].fst=Zah (parts[i]'(by omega)).n:=by
   have:=congrArg (fun l=>l[i]?) e2;simpa [List.getElem?_eq_getElem hi,List.getElem?_eq_getElem (show i<parts.length by omega)] using this
  exact ⟨y,l,by rw [g1,h1],by rw [g2,h2]⟩
 ·rw [hpg] at hq;rcases hq with hq|hq
  ·exact ⟨fun e=>(r.fresh q hq).1 ((hnow q).2 (.inl e)),(r.fresh q hq).2⟩
  ·exact hfr q hq
 ·rw [r.now,hnow,hpg];constructor
  ·rintro ((h|h)|h)
   ·exact .inl h
   ·exact .inr (.inr h)
   ·exact .inr (.inl h)
  ·rintro (h|h|h)
   ·exact .inl (.inl h)
   ·exact .inr h
   ·exact .inl (.inr h)
 ·rw [hpg,not_or] at hq;rw [r.rd q hq.1,hrd q hq.2]
theorem ZnE {ks:List (Key×Int)} {subs:List Sub} (h:ks=subs.map ZaZ):ks.map Zpc=subs.map kidS:=by rw [h,List.map_map];rfl
theorem Zr3 {ours:Int→Prop} {B:List Int} {w w':ZS} {l:List ZR} {k:List GKid} (hw:WOK ours B w) (ha:ascP l) (he:ZbH w [] (ZaR l)=some (w',k)):∃subs,k=subs.map kidS∧subs.length=(ZaR l).length∧Row ours B w w' 0 subs l:=by
 have hne:=Zkf l.length l (Nat.le_refl _);have hfl:=ZgS l.length l (Nat.le_refl _);rw [ZjL hne] at he;cases hs:putS w ((ZaR l).map Za2) with
 |none=>rw [hs] at he;cases he
 |some r=>
  obtain ⟨w1,ks⟩:=r;rw [hs] at he;simp only [Option.map_some,List.nil_append,Option.some.injEq,Prod.mk.injEq] at he;obtain ⟨rfl,rfl⟩:=he;have hparts:(ZaR l).map Za2=((ZaR l).map fun b=>(⟨Za2 b,b,[]⟩:Part)).map Part.n:=by rw [List.map_map];rfl
  rw [hparts] at hs;have hC:((ZaR l).map fun b=>(⟨Za2 b,b,[]⟩:Part)).flatMap Part.C=[]:=by
   rw [List.flatMap_eq_nil_iff];intro x hx;obtain ⟨b,_,rfl⟩:=List.mem_map.1 hx;rfl
  obtain ⟨subs,hk,r⟩:=ZfU (h:=0) hw (fun x hx=>by obtain ⟨b,_,rfl⟩:=List.mem_map.1 hx;exact ⟨rfl,ZcH.symm,rfl⟩) (by rw [hC];simp) (by rw [hC];simp) hs;refine ⟨subs,ZnE hk,by have:=congrArg List.length r.pairs;simpa using this,ZqI (w0:=w) (below:=[]) r hC ?_ (by simp) (by simp) (by simp) (fun q _=>rfl) (fun x hx=>?_)⟩
  ·rw [List.flatMap_map];show (ZaR l).flatMap id=l;rw [List.flatMap_id];exact hfl
  ·obtain ⟨b,hb,rfl⟩:=List.mem_map.1 hx;cases b with
   |nil=>exact absurd rfl (hne [] hb)
   |cons y t=>exact ⟨y,t,rfl,rfl⟩
theorem ZuI {ours:Int→Prop} {B:List Int} {w0 w w':ZS} {h:Nat} {subs:List Sub} {ps:List ZR} {k:List GKid} (r:Row ours B w0 w h subs ps) (ha:ascP ps) (he:Zcz w [] (ZaR (subs.map kidS))=some (w',k)):
  ∃subs',k=subs'.map kidS∧subs'.length=(ZaR subs).length∧Row ours B w0 w' (h+1) subs' ps:=by
 have hne:=Zkf subs.length subs (Nat.le_refl _);have hfl:=ZgS subs.length subs (Nat.le_refl _);have hfm:∀ {β:Type} (f:Sub→List β),(ZaR subs).flatMap (fun b=>b.flatMap f)=subs.flatMap f:=fun f=>by
  conv=>rhs;rw [←hfl]
  rw [List.flatten_eq_flatMap,List.flatMap_assoc];rfl
 rw [ZlC subs.length subs (Nat.le_refl _)] at he;rw [Zlf (by intro b hb;obtain ⟨c,hc,rfl⟩:=List.mem_map.1 hb;intro e;exact hne c hc (by simpa using e))] at he;rw [List.map_map] at he;cases hs:putS w ((ZaR subs).map (kidB∘List.map kidS)) with
 |none=>rw [hs] at he;cases he
 |some r2=>
  obtain ⟨w1,ks⟩:=r2;rw [hs] at he;simp only [Option.map_some,List.nil_append,Option.some.injEq,Prod.mk.injEq] at he;obtain ⟨rfl,rfl⟩:=he;have hparts:(ZaR subs).map (kidB∘List.map kidS)=((ZaR subs).map fun b=>(⟨Z0 (b.map ZaZ),b.flatMap Sub.pairs,b.flatMap Sub.pages⟩:Part)).map Part.n:=by
   rw [List.map_map];exact List.map_congr_left fun b _=>ZuV
  rw [hparts] at hs;have hsub:∀b∈ZaR subs,∀s∈b,s∈subs:=fun b hb s hsb=>by rw [←hfl];exact List.mem_flatten.2 ⟨b,hb,hsb⟩
  have hso:=Zt7 r.key r.hd (by rw [r.pairs];exact ha);have hsb:∀b∈ZaR subs,ZdS b:=fun b hb=>by
   have hsl:b.Sublist subs:=by rw [←hfl];exact List.sublist_flatten_of_mem hb
   exact ⟨fun s hs=>hso.1 s (hsub b hb s hs),hso.2.sublist hsl⟩
  have hC:((ZaR subs).map fun b=>(⟨Z0 (b.map ZaZ),b.flatMap Sub.pairs,b.flatMap Sub.pages⟩:Part)).flatMap Part.C=subs.flatMap Sub.pages:=by
   rw [List.flatMap_map];exact hfm Sub.pages
  have hP:((ZaR subs).map fun b=>(⟨Z0 (b.map ZaZ),b.flatMap Sub.pairs,b.flatMap Sub.pages⟩:Part)).flatMap Part.ps=ps:=by
   rw [List.flatMap_map,←r.pairs];exact hfm Sub.pairs
  obtain ⟨subs',hk,r'⟩:=ZfU (h:=h+1) r.ok (fun x hx=>by
    obtain ⟨b,hb,rfl⟩:=List.mem_map.1 hx;exact Zc8 (fun s hs=>r.tre s (hsub b hb s hs)) (hsb b hb)) (by rw [hC];exact r.nodup) (by rw [hC];exact fun q hq=>(r.now q).2 (.inr hq)) hs
  refine ⟨subs',ZnE hk,by have:=congrArg List.length r'.pairs;simpa using this,ZqI (w0:=w0) r' hC hP (fun q hq=>(r.now q).2 (.inr hq)) r.fresh r.now r.rd (fun x hx=>?_)⟩;obtain ⟨b,hb,rfl⟩:=List.mem_map.1 hx;cases b with
  |nil=>exact absurd rfl (hne [] hb)
  |cons s t=>
   have hs':=hsub (s::t) hb s (by simp);obtain ⟨x,l,h1,h2⟩:=r.hd s hs';refine ⟨x,l++t.flatMap Sub.pairs,by simp [h1],?_⟩;rw [h2,←r.key s hs'];rfl
theorem Zle {ours:Int→Prop} {B:List Int} {ps:List ZR} (ha:ascP ps) {w0:ZS}:∀ {f h m:Nat} {w w':ZS} {subs:List Sub} {k':List GKid},Row ours B w0 w h subs ps→subs.length≤4 ^ m→h+m<8→subs.length≤f+1→
  Zc2 f w (subs.map kidS)=some (w',k')→∃subs' h',k'=subs'.map kidS∧subs'.length≤1∧(subs≠ []→subs'≠ [])∧h'<8∧Row ours B w0 w' h' subs' ps
 |0,h,m,w,w',subs,k',r,hm,hh,hf,he=>by
  simp only [Zc2,Option.some.injEq,Prod.mk.injEq] at he;obtain ⟨rfl,rfl⟩:=he;exact ⟨subs,h,rfl,by omega,fun h=>h,by omega,r⟩
 |f+1,h,m,w,w',subs,k',r,hm,hh,hf,he=>by
  rw [Zc2] at he;split at he
  ·rename_i h1;rw [List.length_map] at h1;split at he
   ·cases he
   ·rename_i w1 k1 hl;obtain ⟨subs1,rfl,g1,g2⟩:=ZuI r ha hl;have hcl:=ZeQ subs.length subs (Nat.le_refl _);cases m with
    |zero=>simp at hm;omega
    |succ m=>
     rw [Nat.pow_succ] at hm;have hne1:subs1≠ []:=fun e=>by
      rw [e,Zcc (fun e=>by rw [e] at h1;simp at h1)] at g1;simp at g1
     obtain ⟨subs2,h2,e1,e2,e3,e4,e5⟩:=Zle ha (f:=f) (m:=m) g2 (by omega) (by omega) (by omega) he;exact ⟨subs2,h2,e1,e2,fun _=>e3 hne1,e4,e5⟩
  ·rename_i h1;rw [List.length_map] at h1;simp only [Option.some.injEq,Prod.mk.injEq] at he;obtain ⟨rfl,rfl⟩:=he;exact ⟨subs,h,rfl,by omega,fun h=>h,by omega,r⟩
theorem ZlH {ours:Int→Prop} {B:List Int} {w w':ZS} {l:List ZR} {root:Int} (hw:WOK ours B w) (he:ZhC w l=some (w',root)):
  ascP l∧WOK ours B w'∧∃pg,Zdp (rdW w'.Zc) root l pg∧(∀q,live B w' q↔live B w q∨q∈pg)∧(∀q∈pg,¬live B w q∧ours q)∧∀q,q∉pg→rdW w'.Zc q=rdW w.Zc q:=by
 unfold ZhC at he;split at he
 ·rename_i hasc;have ha:=ZhF.2 hasc;refine ⟨ha,?_⟩;split at he
  ·cases he
  ·rename_i w1 k1 h1;obtain ⟨subs,rfl,hlen,r⟩:=Zr3 hw ha h1;split at he
   ·cases he
   ·rename_i w2 k2 h2;simp only [Option.some.injEq,Prod.mk.injEq] at he;obtain ⟨rfl,rfl⟩:=he;have hsl:subs.length≤40:=by
     have hpn:(subs.map Sub.page).Nodup:=by
      have h3:=r.nodup;have h4:=r.tre;clear r hlen h1 h2;induction subs with
      |nil=>simp
      |cons s subs ih=>
       rw [List.flatMap_cons] at h3;obtain ⟨a1,a2,a3⟩:=List.nodup_append.1 h3;rw [List.map_cons,List.nodup_cons];refine ⟨fun e=>?_,ih a2 fun s hs=>h4 s (by simp [hs])⟩;obtain ⟨t,ht,e⟩:=List.mem_map.1 e;exact a3 s.page (h4 s (by simp)).mem t.page (List.mem_flatMap.2 ⟨t,ht,(h4 t (by simp [ht])).mem⟩) e.symm
     have:=ZoJ hpn (m:=w1.Zf) fun q hq=>by
      obtain ⟨s,hs,rfl⟩:=List.mem_map.1 hq;have hmem:s.page∈subs.flatMap Sub.pages:=List.mem_flatMap.2 ⟨s,hs,(r.tre s hs).mem⟩;rcases (r.now s.page).2 (.inr hmem) with h|⟨h,_⟩
      ·exact h
      ·exact absurd (r.fresh _ hmem).2 (r.ok.baseN _ h)
     have h40:=r.ok.few.1;rw [List.length_map] at this;omega
    have hcl:=ZeQ l.length l (Nat.le_refl _);obtain ⟨subs2,h',rfl,e2,e3,e4,r2⟩:=Zle ha (m:=3) r (by omega) (by omega) (by omega) h2;refine ⟨r2.ok,subs2.flatMap Sub.pages,?_,r2.now,r2.fresh,r2.rd⟩;cases subs2 with
    |nil=>
     have hp:=r2.pairs;exact .inl ⟨rfl,hp.symm,rfl⟩
    |cons s t=>
     have:t=[]:=List.eq_nil_of_length_eq_zero (by simp at e2;simpa using e2);subst this;have hp:=r2.pairs;have hnd:=r2.nodup;simp only [List.flatMap_cons,List.flatMap_nil,List.append_nil] at hp hnd ⊢;have h2:=r2.two s (by simp);refine .inr ⟨?_,hnd,h',s.fst,e4,by rw [←hp];exact r2.tre s (by simp)⟩;show s.page≠0;omega
 ·cases he
end Go.Rx
namespace Go.Rx
open Go
def delP {α:Type} (l:List α) (at_ i:Nat):List α:=if i≤at_ then l.take i else l.take at_++(l.drop (at_+1)).take (i - (at_+1))
theorem Zmn {α:Type} {l:List α} {at_ i:Nat} {e:α} (h:l[i]? =some e) (hi:i≠at_):delP l at_ (i+1)=delP l at_ i++[e]:=by
 unfold delP;by_cases hlt:i<at_
 ·rw [if_pos (by omega),if_pos (by omega),Z7 h]
 ·rw [if_neg (by omega),if_neg (by omega)];have e1:i+1 - (at_+1)=(i - (at_+1))+1:=by omega
  have e2:(l.drop (at_+1))[i - (at_+1)]? =some e:=by rw [List.getElem?_drop];rw [show at_+1+(i - (at_+1))=i by omega];exact h
  rw [e1,Z7 e2,List.append_assoc]
theorem Zmo {α:Type} {l:List α} {at_:Nat}:delP l at_ (at_+1)=delP l at_ at_:=by
 unfold delP;rw [if_neg (by omega),if_pos (Nat.le_refl _)];simp
theorem Zi9 {α:Type} {l:List α} {at_:Nat} (h:at_<l.length):delP l at_ l.length=l.eraseIdx at_:=by
 unfold delP;have e:(l.drop (at_+1)).take (l.length - (at_+1))=l.drop (at_+1):=List.take_of_length_le (by rw [List.length_drop];omega);rw [if_neg (by omega),e,List.eraseIdx_eq_take_drop_succ]
theorem Zi8 {α:Type} {l:List α} {at_ i:Nat}:(delP l at_ i).length≤l.length:=by
 unfold delP;split
 ·simp;omega
 ·simp;omega
theorem Zhy {α:Type} {l:List α} {at_:Nat}:delP l at_ 0=[]:=by simp [delP]
def finR (w:ZS) (n:Z1) (page:Int):Bool×ZS×Int:=
 if n.Zj=[] then (true,ZbP w page,0) else match putN w n with
  |none=>(false,w,0)
  |some (w',p)=>(true,ZbP w' page,p)
theorem Zvm {w:ZS} {n:Z1} {page:Int}:match finU w n page with
  |some r=>finR w n page=(true,r.1,r.2)
  |none=>(finR w n page).1=false:=by
 unfold finU finR;by_cases h:n.Zj=[]
 ·rw [if_pos h,if_pos h]
 ·rw [if_neg h,if_neg h];cases putN w n with
  |none=>rfl
  |some q=>rfl
theorem Zfw {α β:Type} {f:α→β}:∀ {l:List α} {i:Nat},(l.eraseIdx i).map f=(l.map f).eraseIdx i
 |[],i=>by simp
 |a::l,0=>by simp
 |a::l,i+1=>by simp [Zfw]
theorem Zyl {α β:Type} {l:List α} {m:List β} (h:m.length=l.length):(l.zip m).map (·.1)=l:=List.map_fst_zip (by omega)
theorem Zyk {α β:Type} {l:List α} {m:List β} (h:m.length=l.length):(l.zip m).map (·.2)=m:=List.map_snd_zip (by omega)
theorem ZwH {α:Type} {l:List α} {i:Nat} {x:α} (h:l[i]? =some x):l.set i x=l:=by
 obtain ⟨h1,rfl⟩:=List.getElem?_eq_some_iff.1 h;simp
end Go.Rx
namespace Go.Rx
open Go
structure Zv8 (ours:Int→Prop) (B:List Int) (h:Nat) (w:ZS) (top:Int):Prop where
 two:2≤top
 ok:WOK ours B w
 tree:∃fk ps pg,Tre (rdW w.Zc) h top fk ps pg∧pg.Nodup∧∀q,live B w q↔q∈pg
theorem Zv8.node {ours:Int→Prop} {B:List Int} {h:Nat} {w:ZS} {top:Int} (t:Zv8 ours B h w top):∃n,rdW w.Zc top=some n∧(n.Zn=true∨(n.Zn=false∧(1<n.Zk.length∨(n.Zk.length=1∧∃h',h=h'+1∧Zv8 ours B h' (ZbP w top) (n.Zk.headD 0))))):=by
 obtain ⟨fk,ps,pg,ht,hn,hl⟩:=t.tree;cases h with
 |zero=>
  obtain ⟨n,h1,hleaf,_⟩:=ht;exact ⟨n,h1,.inl hleaf⟩
 |succ h=>
  obtain ⟨n,ks,h1,hleaf,h3,h4,h5,h6,h7,h8',h9⟩:=ht;have hok:=Zcx _ _ h1;refine ⟨n,h1,.inr ⟨hleaf,?_⟩⟩;by_cases hc:1<n.Zk.length
  ·exact .inl hc
  ·obtain ⟨k,rfl⟩:∃k,ks=[k]:=by
    have h10:=hok.1;rw [h4,List.length_map] at h10;rw [h5,List.length_map] at hc
    match ks,h10,hc with
    |[k],_,_=>exact ⟨k,rfl⟩
    |_::_::_,_,h=>simp at h
   have hkid:n.Zk.headD 0=k.page:=by rw [h5];rfl
   simp only [List.flatMap_cons,List.flatMap_nil,List.append_nil] at h8' h9;rw [h9] at hn hl;obtain ⟨n1,n2⟩:=List.nodup_cons.1 hn;obtain ⟨d1,d2⟩:=ZeP t.ok ((hl top).2 (by simp));have h5':=hok.2.2.2.2;rw [if_neg (by rw [hleaf];simp)] at h5';have hk2:=(h5'.2.2.1 k.page (by rw [h5];simp)).1;refine .inr ⟨by rw [h5];rfl,h,rfl,⟨by rw [hkid];exact hk2,d1,k.fst,k.pairs,k.pages,by rw [ZbI,hkid];exact h6 k (by simp),n2,fun q=>?_⟩⟩;rw [d2,hl,List.mem_cons];constructor
   ·rintro ⟨h|h,h2⟩
    ·exact absurd h h2
    ·exact h
   ·exact fun h=>⟨.inr h,fun e=>n1 (e▸h)⟩
theorem ZmI {f:Nat} {w:ZS} {top:Int} {n:Z1} (h0:top≠0) (hr:rdW w.Zc top=some n) (h:n.Zn=true∨1<n.Zk.length):topU (f+1) w top=(w,top):=by
 rw [topU,if_neg h0,hr];simp only;rw [if_pos h]
theorem ZyB {f:Nat} {w:ZS} {top:Int} {n:Z1} (h0:top≠0) (hr:rdW w.Zc top=some n) (h:¬(n.Zn=true∨1<n.Zk.length)):topU (f+1) w top=topU f (ZbP w top) (n.Zk.headD 0):=by
 rw [topU,if_neg h0,hr];simp only;rw [if_neg h]
end Go.Rx
