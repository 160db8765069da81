/-
  Part P3: lemmas on an evaluator over plain data of the model's code, plain laws on lists and numbers, or contracts of functions of the program; each lemma names its conditions.
-/
import Derived.Test.YtmeinhaecplpkaaGreatRP2

set_option linter.unusedSimpArgs false
set_option linter.unusedVariables false
namespace Go.Rx
open Go
def kmin (a b:Key):Key:=if klt b a then b else a
theorem kmin_le2 {a b : Key} : kle (kmin a b) b := by unfold kmin; split; · exact kle_refl
                                                      · rename_i h; exact not_klt.1 h
theorem kmin_left {a b:Key} (h:kle a b):kmin a b=a:=if_neg (not_klt.2 h)
theorem le_kmin {a b c:Key} (h1:kle c a) (h2:kle c b):kle c (kmin a b):=by unfold kmin;split<;>assumption
theorem kmin_kmin {a b c:Key} (h:kle a b):kmin a (kmin b c)=kmin a c:=by
 by_cases hc:klt c a
 ·have:kmin b c=c:=if_pos (klt_of_klt_kle hc h)
  rw [this]
 ·rw [kmin_left (not_klt.1 hc),kmin_left (le_kmin h (not_klt.1 hc))]
def splitN (n:GNode):List GNode:=if 4<n.fKeys.length then [⟨n.fLeaf,n.fKeys.take 3,n.fVals.take 3,n.fKids.take 3⟩,⟨n.fLeaf,n.fKeys.drop 3,n.fVals.drop 3,n.fKids.drop 3⟩] else [n]
theorem pairsOf_leafB {L : List GPair} : pairsOf (leafB L) = L := by
  simp only [pairsOf, leafB]
  rw [zip_fst_snd' L]
  where zip_fst_snd' (L : List GPair) : ((L.map (·.fKey)).zip (L.map (·.fVal))).map pairOf = L := by
          rw [List.zip_map', List.map_map]
          conv => rhs; rw [← List.map_id L]
          exact List.map_congr_left fun x _ => rfl
theorem leafB_pairs {n:GNode} (hn:nodeOk n) (hl:n.fLeaf=true):leafB (pairsOf n)=n:=by
 have h:=hn.2.2.2.2
 rw [if_pos hl] at h
 have h1:=pairsOf_keys hn hl
 have h2:(pairsOf n).map (·.fVal)=n.fVals:=by
  simp only [pairsOf,List.map_map,Function.comp_def,pairOf]
  exact List.map_snd_zip (by omega)
 unfold leafB
 rw [h1,h2,←hl,←h.2.2]
theorem split_leaf {rd:RD} {L:List GPair} (hL:ascP L):∃x parts,parts.length≤1∧splitN (leafB L)=(x::parts).map Part.n∧(∀y∈x::parts,Cand rd 0 y.n y.ps y.C)∧(x::parts).flatMap Part.C=[]∧
  (x::parts).flatMap Part.ps=L∧((x::parts).Pairwise fun a b=>∀q∈a.ps,klt q.fKey (firstKey b.n))∧firstKey x.n=firstKey (leafB L):=by
 unfold splitN
 by_cases h:4<(leafB L).fKeys.length
 ·rw [if_pos h]
  have h':4<L.length:=by simpa [leafB] using h
  refine ⟨⟨leafB (L.take 3),L.take 3,[]⟩,[⟨leafB (L.drop 3),L.drop 3,[]⟩],by simp,?_,?_,by simp,?_,?_,?_⟩
  ·simp [leafB,List.map_take,List.map_drop]
  ·intro y hy
   simp only [List.mem_cons,List.not_mem_nil,or_false] at hy
   rcases hy with rfl|rfl<;>exact ⟨rfl,pairsOf_leafB.symm,rfl⟩
  ·simp
  ·refine List.pairwise_cons.2 ⟨fun y hy q hq=>?_,by simp⟩
   simp only [List.mem_singleton] at hy
   subst hy
   obtain ⟨z,l,hz⟩:∃z l,L.drop 3=z::l:=by
    cases hd:L.drop 3 with
    |nil=>have:=congrArg List.length hd;simp at this;omega
    |cons z l=>exact ⟨z,l,rfl⟩
   have:firstKey (leafB (L.drop 3))=z.fKey:=by rw [hz];rfl
   simp only
   rw [this]
   have hs:ascP (L.take 3++L.drop 3):=by rw [List.take_append_drop];exact hL
   exact (List.pairwise_append.1 hs).2.2 q hq z (by rw [hz];simp)
  ·cases L with
   |nil=>simp at h'
   |cons z l=>rfl
 ·rw [if_neg h]
  exact ⟨⟨leafB L,L,[]⟩,[],by simp,rfl,fun y hy=>by simp at hy;subst hy;exact ⟨rfl,pairsOf_leafB.symm,rfl⟩,by simp,by simp,by simp,rfl⟩
theorem branchOf_keys {S:List Sub}:(branchOf (S.map subKP)).fKeys=S.map Sub.key:=by simp [branchOf,subKP,Function.comp_def]
theorem branchOf_kids {S:List Sub}:(branchOf (S.map subKP)).fKids=S.map Sub.page:=by simp [branchOf,subKP,Function.comp_def]
theorem cand_branch {rd:RD} {h:Nat} {S:List Sub} (ht:∀k∈S,Tre rd h k.page k.fst k.pairs k.pages) (hs:subsOk S):Cand rd (h+1) (branchOf (S.map subKP)) (S.flatMap Sub.pairs) (S.flatMap Sub.pages):=
 ⟨rfl,S,branchOf_keys,branchOf_kids,ht,hs,rfl,rfl⟩
theorem subsOk_append {a b:List Sub}:subsOk (a++b)↔subsOk a∧subsOk b∧∀x∈a,∀y∈b,∀q∈x.pairs,klt q.fKey y.key:=by
 unfold subsOk
 rw [List.pairwise_append]
 constructor
 ·rintro ⟨h1,h2,h3,h4⟩
  exact ⟨⟨fun k hk=>h1 k (List.mem_append_left _ hk),h2⟩,⟨fun k hk=>h1 k (List.mem_append_right _ hk),h3⟩,h4⟩
 ·rintro ⟨⟨h1,h2⟩,⟨h3,h4⟩,h5⟩
  exact ⟨fun k hk=>(List.mem_append.1 hk).elim (h1 k) (h3 k),h2,h4,h5⟩
theorem split_branch {rd:RD} {h:Nat} {S:List Sub} (ht:∀k∈S,Tre rd h k.page k.fst k.pairs k.pages) (hs:subsOk S):∃x parts,parts.length≤1∧splitN (branchOf (S.map subKP))=(x::parts).map Part.n∧
  (∀y∈x::parts,Cand rd (h+1) y.n y.ps y.C)∧(x::parts).flatMap Part.C=S.flatMap Sub.pages∧
  (x::parts).flatMap Part.ps=S.flatMap Sub.pairs∧((x::parts).Pairwise fun a b=>∀q∈a.ps,klt q.fKey (firstKey b.n))∧firstKey x.n=firstKey (branchOf (S.map subKP)):=by
 unfold splitN
 by_cases hk:4<(branchOf (S.map subKP)).fKeys.length
 ·rw [if_pos hk]
  have h':4<S.length:=by simpa [branchOf] using hk
  have hS:S.take 3++S.drop 3=S:=List.take_append_drop 3 S
  have hs':=hs
  rw [←hS] at hs'
  obtain ⟨s1,s2,s3⟩:=subsOk_append.1 hs'
  refine ⟨⟨branchOf ((S.take 3).map subKP),(S.take 3).flatMap Sub.pairs,(S.take 3).flatMap Sub.pages⟩,[⟨branchOf ((S.drop 3).map subKP),(S.drop 3).flatMap Sub.pairs,(S.drop 3).flatMap Sub.pages⟩],by simp,?_,?_,?_,?_,?_,?_⟩
  ·simp [branchOf,List.map_take,List.map_drop]
  ·intro y hy
   simp only [List.mem_cons,List.not_mem_nil,or_false] at hy
   rcases hy with rfl|rfl
   ·exact cand_branch (fun k hk=>ht k (List.mem_of_mem_take hk)) s1
   ·exact cand_branch (fun k hk=>ht k (List.mem_of_mem_drop hk)) s2
  ·simp only [List.flatMap_cons,List.flatMap_nil,List.append_nil]
   rw [←List.flatMap_append,hS]
  ·simp only [List.flatMap_cons,List.flatMap_nil,List.append_nil]
   rw [←List.flatMap_append,hS]
  ·refine List.pairwise_cons.2 ⟨fun y hy q hq=>?_,by simp⟩
   simp only [List.mem_singleton] at hy
   subst hy
   obtain ⟨z,l,hz⟩:∃z l,S.drop 3=z::l:=by
    cases hd:S.drop 3 with
    |nil=>have:=congrArg List.length hd;simp at this;omega
    |cons z l=>exact ⟨z,l,rfl⟩
   have:firstKey (branchOf ((S.drop 3).map subKP))=z.key:=by rw [hz];rfl
   simp only
   rw [this]
   simp only at hq
   obtain ⟨x,hx,hq⟩:=List.mem_flatMap.1 hq
   exact s3 x hx z (by rw [hz];simp) q hq
  ·cases S with
   |nil=>simp at h'
   |cons z l=>rfl
 ·rw [if_neg hk]
  exact ⟨⟨branchOf (S.map subKP),S.flatMap Sub.pairs,S.flatMap Sub.pages⟩,[],by simp,rfl,fun y hy=>by simp at hy;subst hy;exact cand_branch ht hs,by simp,by simp,by simp,rfl⟩
theorem mput_first {L:List GPair} {k v:Key} (hL:ascP L) (hne:L≠ []):firstKey (leafB (mput L k v))=kmin (firstKey (leafB L)) k:=by
 cases L with
 |nil=>exact absurd rfl hne
 |cons x l=>
  obtain ⟨h1,h2⟩:=List.pairwise_cons.1 hL
  have e:firstKey (leafB (x::l))=x.fKey:=rfl
  rw [e]
  by_cases hk:klt x.fKey k
  ·have:(mput (x::l) k v)=x::((l.filter fun p=>decide (klt p.fKey k))++[⟨k,v⟩]++(x::l).filter fun p=>decide (klt k p.fKey)):=by
    unfold mput
    rw [List.filter_cons,if_pos (decide_eq_true hk)];rfl
   rw [this,kmin_left (kle_of_klt hk)];rfl
  ·have:(x::l).filter (fun p=>decide (klt p.fKey k))=[]:=filter_none fun q hq=>decide_eq_false fun h=>by
    rcases List.mem_cons.1 hq with rfl|hq
    ·exact hk h
    ·exact hk (klt_trans (h1 q hq) h)
   have hm:firstKey (leafB (mput (x::l) k v))=k:=by unfold mput;rw [this];rfl
   rw [hm]
   unfold kmin
   by_cases h2:klt k x.fKey
   ·rw [if_pos h2]
   ·rw [if_neg h2]
    exact kle_anti (not_klt.1 hk) (not_klt.1 h2)
def joinE (es:List (Key×Int)) (i:Nat) (kk:List (Key×Int)):List (Key×Int):=
 es.take i++(kmin (es.getD i ([],0)).1 (kk.headD ([],0)).1,(kk.headD ([],0)).2)::kk.drop 1++es.drop (i+1)
def placeN (l:List Key) (key:Key):Nat:=(max 0 (placeI l key)).toNat
def putU:Nat→GWork→Int→Key→Key→Option (GWork×List (Key×Int)×Nat)
 |0,_,_,_,_=>none
 |f+1,w,page,key,val=>match rdW w.fDisk page with
  |none=>none
  |some n=>if n.fLeaf=true then (anewN w (splitN (leafB (mput (pairsOf n) key val))) page).map fun r=>(r.1,r.2,0)
   else match putU f w (n.fKids.getD (placeN n.fKeys key) 0) key val with
    |none=>none
    |some (w1,kk,dp)=>(anewN w1 (splitN (branchOf (joinE (n.fKeys.zip n.fKids) (placeN n.fKeys key) kk))) page).map fun r=>(r.1,r.2,dp+1)
theorem place_subs {ks:List Sub} {key:Key} (hne:ks≠ []):∃pre s post,ks=pre++s::post∧placeN (ks.map Sub.key) key=pre.length∧(pre≠ []→kle s.key key)∧∀k∈post,klt key k.key:=by
 rcases placeI_cases (ks.map Sub.key) key with ⟨h1,h2⟩|⟨pre,k,post,h1,h2,h3,h4⟩
 ·cases ks with
  |nil=>exact absurd rfl hne
  |cons s ks=>
   refine ⟨[],s,ks,rfl,?_,fun h=>absurd rfl h,fun k hk=>h2 _ (List.mem_map.2 ⟨k,by simp [hk],rfl⟩)⟩
   unfold placeN;rw [h1];rfl
 ·obtain ⟨a,b,e1,e2,e3⟩:=List.map_eq_append_iff.1 h1
  cases b with
  |nil=>simp at e3
  |cons s post'=>
   simp only [List.map_cons,List.cons.injEq] at e3
   refine ⟨a,s,post',e1,?_,fun _=>by rw [e3.1];exact h3,fun k hk=>h4 _ (by rw [←e3.2];exact List.mem_map.2 ⟨k,hk,rfl⟩)⟩
   unfold placeN
   rw [h2,←e2]
   simp
theorem getD_mid {α:Type} {a b:List α} {x d:α}:(a++x::b).getD a.length d=x:=by simp [List.getD]
theorem joinE_subs {pre post rest:List Sub} {s s1:Sub}:joinE ((pre++s::post).map subKP) pre.length ((s1::rest).map subKP)=
  (pre++⟨kmin s.key s1.key,s1.page,s1.fst,s1.pairs,s1.pages⟩::(rest++post)).map subKP:=by
 have hd:(pre++s::post).drop (pre.length+1)=post:=by
  rw [←List.drop_drop,List.drop_left];rfl
 unfold joinE
 rw [←List.map_take,List.take_left]
 have e1:((pre++s::post).map subKP).getD pre.length ([],0)=subKP s:=by
  have h:=getD_mid (a:=pre.map subKP) (b:=post.map subKP) (x:=subKP s) (d:=(([]:Key),(0:Int)))
  rw [List.length_map] at h
  rw [List.map_append,List.map_cons];exact h
 have e2:((pre++s::post).map subKP).drop (pre.length+1)=post.map subKP:=by rw [←List.map_drop,hd]
 rw [e1,e2]
 simp [subKP]
theorem nodup_flat_mem {S:List Sub} (h:(S.flatMap Sub.pages).Nodup) {k:Sub} (hk:k∈S):k.pages.Nodup:=by
 induction S with
 |nil=>cases hk
 |cons x xs ih=>
  rw [List.flatMap_cons] at h
  obtain ⟨a1,a2,_⟩:=List.nodup_append.1 h
  rcases List.mem_cons.1 hk with rfl|hk
  ·exact a1
  ·exact ih a2 hk
theorem putU_spec {ours:Int→Prop} {B:List Int} {key val:Key}:∀ {f h:Nat} {w w':GWork} {page:Int} {fk:Key} {ps:List GPair} {pg:List Int} {kk:List (Key×Int)} {dp:Nat},WOK ours B w→
  Tre (rdW w.fDisk) h page fk ps pg→pg.Nodup→(∀q∈pg,live B w q)→putU f w page key val=some (w',kk,dp)→
  dp=h∧∃subs:List Sub,kk=subs.map subKP∧Repl ours B w w' h pg subs (mput ps key val) (kmin fk key)
 |0,h,w,w',page,fk,ps,pg,kk,dp,hw,ht,hn,hl,he=>by cases he
 |f+1,0,w,w',page,fk,ps,pg,kk,dp,hw,⟨n,h1,h2,h3,h4,h5⟩,hn,hl,he=>by
  rw [putU,h1] at he
  simp only [h2,if_true] at he
  have hok:=rdW_ok _ _ h1
  have ha:ascP (pairsOf n):=by rw [ascP_keys,pairsOf_keys hok h2];exact hok.2.2.1
  have hne:pairsOf n≠ []:=by
   have h1:=pairsOf_len hok h2
   have h2:=hok.1
   intro e;rw [e] at h1;simp at h1;omega
  cases hs:anewN w (splitN (leafB (mput (pairsOf n) key val))) page with
  |none=>rw [hs] at he;cases he
  |some r=>
   obtain ⟨w1,ks1⟩:=r
   rw [hs] at he
   simp only [Option.map_some,Option.some.injEq,Prod.mk.injEq] at he
   obtain ⟨rfl,rfl,rfl⟩:=he
   refine ⟨rfl,?_⟩
   obtain ⟨x,parts,p1,p2,p3,p4,p5,p6,p7⟩:=split_leaf (rd:=rdW w.fDisk) (ascP_mput (k:=key) (v:=val) ha)
   rw [p2] at hs
   obtain ⟨subs,e1,r⟩:=anew_spec (h:=0) hw p1 p3 (by rw [p4];simp) (by rw [p4];simp) (hl page (by rw [h5];simp)) (by rw [p4];simp) p6 hs
   refine ⟨subs,e1,?_⟩
   rw [p4,p5,p7] at r
   rw [mput_first ha hne,leafB_pairs hok h2,←h3] at r
   rw [h4,h5];exact r
 |f+1,h+1,w,w',page,fk,ps,pg,kk,dp,hw,⟨n,ks,h1,h2,h3,h4,h5,h6,h7,h8,h9⟩,hn,hl,he=>by
  rw [putU,h1] at he
  simp only [h2,Bool.false_eq_true,if_false] at he
  have hok:=rdW_ok _ _ h1
  have hks:ks≠ []:=by
   have:=hok.1
   rw [h4,List.length_map] at this
   intro e;rw [e] at this;simp at this
  obtain ⟨pre,s,post,e1,e2,e3,e4⟩:=place_subs (key:=key) hks
  rw [←h4] at e2
  rw [zip_subs h4 h5] at he
  rw [e2] at he
  have hkid:n.fKids.getD pre.length 0=s.page:=by
   rw [h5,e1]
   have h:=getD_mid (a:=pre.map Sub.page) (b:=post.map Sub.page) (x:=s.page) (d:=(0:Int))
   rw [List.length_map] at h
   rw [List.map_append,List.map_cons];exact h
  rw [hkid] at he
  have hs:s∈ks:=by rw [e1];simp
  rw [h9] at hn hl
  obtain ⟨n1,n2⟩:=List.nodup_cons.1 hn
  have hsp:∀q∈s.pages,q∈ks.flatMap Sub.pages:=fun q hq=>List.mem_flatMap.2 ⟨s,hs,hq⟩
  cases hu:putU f w s.page key val with
  |none=>rw [hu] at he;cases he
  |some r=>
   obtain ⟨w1,kk1,dp1⟩:=r
   rw [hu] at he
   simp only at he
   obtain ⟨hdp,subs1,rfl,r1⟩:=putU_spec hw (h6 s hs) (nodup_flat_mem n2 hs) (fun q hq=>hl q (List.mem_cons_of_mem _ (hsp q hq))) hu
   obtain ⟨s1,rest,rfl,f1,f2⟩:=r1.head
   have k1:s1.key=s1.fst:=r1.key s1 (by simp)
   rw [e1,joinE_subs] at he
   cases ha:anewN w1 (splitN (branchOf ((pre++⟨kmin s.key s1.key,s1.page,s1.fst,s1.pairs,s1.pages⟩::(rest++post)).map subKP))) page with
   |none=>rw [ha] at he;cases he
   |some r2=>
    obtain ⟨w2,ks2⟩:=r2
    rw [ha] at he
    simp only [Option.map_some,Option.some.injEq,Prod.mk.injEq] at he
    obtain ⟨rfl,rfl,rfl⟩:=he
    refine ⟨by rw [hdp],?_⟩
    rw [e1] at h7
    obtain ⟨o1,o2,o3⟩:=subsOk_append.1 h7
    have o4:=List.pairwise_cons.1 o2.2
    have o5:=o2.1
    obtain ⟨q1,q2⟩:=r1.sok
    obtain ⟨q3,q4⟩:=List.pairwise_cons.1 q2
    have hkey:pre≠ []→kmin s.key s1.key=s.key:=fun hp=>kmin_left (by rw [k1,f1];exact le_kmin (o5 s (by simp)) (e3 hp))
    have t1:=r1.tre s1 (by simp)
    have hlow:∀k∈ks,∀q∈k.pairs,kle k.key q.fKey:=fun k hk q hq=>kle_trans ((by rw [←e1] at h7;exact h7.1 k hk)) ((h6 k hk).low rdW_ok q hq)
    have hrest:∀r∈rest,klt s1.key r.key:=fun r hr=>by
     have hne:=t1.nonempty rdW_ok
     cases hp:s1.pairs with
     |nil=>exact absurd hp hne
     |cons x l=>
      have hx:x∈s1.pairs:=by rw [hp];simp
      exact klt_of_kle (by rw [k1];exact t1.low rdW_ok x hx) (q3 r hr x hx)
    have hps:s1.pairs++rest.flatMap Sub.pairs=mput s.pairs key val:=by have:=r1.pairs;rwa [List.flatMap_cons] at this
    have hpost:∀x∈mput s.pairs key val,∀y∈post,klt x.fKey y.key:=fun x hx y hy=>by
     rcases mput_mem hx with hx|rfl
     ·exact o4.1 y hy x hx
     ·exact e4 y hy
    have hpre:∀x∈pre,∀q∈x.pairs,klt q.fKey s.key:=fun x hx q hq=>o3 x hx s (by simp) q hq
    have hS:subsOk (pre++⟨kmin s.key s1.key,s1.page,s1.fst,s1.pairs,s1.pages⟩::(rest++post)):=by
     refine subsOk_append.2 ⟨o1,?_,?_⟩
     ·have:subsOk (rest++post):=by
       refine subsOk_append.2 ⟨⟨fun k hk=>q1 k (by simp [hk]),q4⟩,⟨fun k hk=>o5 k (by simp [hk]),o4.2⟩,fun x hx y hy q hq=>?_⟩
       exact hpost q (by rw [←hps];exact List.mem_append_right _ (List.mem_flatMap.2 ⟨x,hx,hq⟩)) y hy
      refine ⟨fun k hk=>?_,List.pairwise_cons.2 ⟨fun y hy q hq=>?_,this.2⟩⟩
      ·rcases List.mem_cons.1 hk with rfl|hk
       ·show kle (kmin s.key s1.key) s1.fst
        rw [←k1];exact kmin_le2
       ·exact this.1 k hk
      ·rcases List.mem_append.1 hy with hy|hy
       ·exact q3 y hy q hq
       ·exact hpost q (by rw [←hps];exact List.mem_append_left _ hq) y hy
     ·intro x hx y hy q hq
      have hp:pre≠ []:=fun e=>by rw [e] at hx;cases hx
      rcases List.mem_cons.1 hy with rfl|hy
      ·show klt q.fKey (kmin s.key s1.key)
       rw [hkey hp];exact hpre x hx q hq
      ·rcases List.mem_append.1 hy with hy|hy
       ·refine klt_trans (klt_of_klt_kle (hpre x hx q hq) ?_) (hrest y hy)
        rw [←hkey hp];exact kmin_le2
       ·exact o3 x hx y (by simp [hy]) q hq
    have hlv:∀q∈ks.flatMap Sub.pages,live B w q:=fun q hq=>hl q (List.mem_cons_of_mem _ hq)
    have hap:∀k∈pre++post,k∈ks∧∀q∈k.pages,q∉s.pages:=fun k hk=>by
     have hk':k∈ks:=by
      rw [e1];rcases List.mem_append.1 hk with h|h
      ·simp [h]
      ·simp [h]
     refine ⟨hk',fun q hq hqs=>?_⟩
     rw [e1,List.flatMap_append,List.flatMap_cons] at n2
     obtain ⟨_,m1,m2⟩:=List.nodup_append.1 n2
     obtain ⟨_,_,m3⟩:=List.nodup_append.1 m1
     rcases List.mem_append.1 hk with h|h
     ·exact m2 q (List.mem_flatMap.2 ⟨k,h,hq⟩) q (List.mem_append_left _ hqs) rfl
     ·exact m3 q hqs q (List.mem_flatMap.2 ⟨k,h,hq⟩) rfl
    have hold:∀k∈pre++post,Tre (rdW w1.fDisk) h k.page k.fst k.pairs k.pages:=fun k hk=>by
     obtain ⟨g1,g2⟩:=hap k hk
     exact (h6 k g1).frame fun q hq=>r1.keep q (hlv q (List.mem_flatMap.2 ⟨k,g1,hq⟩)) (g2 q hq)
    have hT:∀k∈pre++⟨kmin s.key s1.key,s1.page,s1.fst,s1.pairs,s1.pages⟩::(rest++post),Tre (rdW w1.fDisk) h k.page k.fst k.pairs k.pages:=fun k hk=>by
     rcases List.mem_append.1 hk with hk|hk
     ·exact hold k (by simp [hk])
     ·rcases List.mem_cons.1 hk with rfl|hk
      ·exact t1
      ·rcases List.mem_append.1 hk with hk|hk
       ·exact r1.tre k (by simp [hk])
       ·exact hold k (by simp [hk])
    have hC:(pre++⟨kmin s.key s1.key,s1.page,s1.fst,s1.pairs,s1.pages⟩::(rest++post)).flatMap Sub.pages=pre.flatMap Sub.pages++((s1::rest).flatMap Sub.pages++post.flatMap Sub.pages):=by
     simp [List.flatMap_append,List.flatMap_cons,List.append_assoc]
    have hpp:∀q,q∈pre.flatMap Sub.pages∨q∈post.flatMap Sub.pages→q∈ks.flatMap Sub.pages∧q∉s.pages:=fun q hq=>by
     have:∃k∈pre++post,q∈k.pages:=by
      rcases hq with hq|hq
      ·obtain ⟨k,hk,hq⟩:=List.mem_flatMap.1 hq;exact ⟨k,by simp [hk],hq⟩
      ·obtain ⟨k,hk,hq⟩:=List.mem_flatMap.1 hq;exact ⟨k,by simp [hk],hq⟩
     obtain ⟨k,hk,hq⟩:=this
     obtain ⟨g1,g2⟩:=hap k hk
     exact ⟨List.mem_flatMap.2 ⟨k,g1,hq⟩,g2 q hq⟩
    have hksp:∀q,q∈ks.flatMap Sub.pages↔q∈pre.flatMap Sub.pages∨q∈s.pages∨q∈post.flatMap Sub.pages:=fun q=>by
     rw [e1,List.flatMap_append,List.flatMap_cons];simp only [List.mem_append]
    have hnd:((pre++⟨kmin s.key s1.key,s1.page,s1.fst,s1.pairs,s1.pages⟩::(rest++post)).flatMap Sub.pages).Nodup:=by
     rw [hC,List.nodup_append,List.nodup_append]
     rw [e1,List.flatMap_append,List.flatMap_cons] at n2
     obtain ⟨m0,m1,m2⟩:=List.nodup_append.1 n2
     obtain ⟨_,m4,m3⟩:=List.nodup_append.1 m1
     refine ⟨m0,⟨r1.nodup,m4,fun a ha b hb e=>?_⟩,fun a ha b hb e=>?_⟩
     ·subst e
      obtain ⟨g1,g2⟩:=hpp a (.inr hb)
      exact r1.new a ha ⟨hlv a g1,g2⟩
     ·subst e
      rcases List.mem_append.1 hb with hb|hb
      ·obtain ⟨g1,g2⟩:=hpp a (.inl ha)
       exact r1.new a hb ⟨hlv a g1,g2⟩
      ·exact m2 a ha a (List.mem_append_right _ hb) rfl
    have hlp:live B w page:=hl page (by simp)
    have hlp1:live B w1 page:=(r1.now page).2 (.inl ⟨hlp,fun e=>n1 (hsp page e)⟩)
    have hpC:page∉(pre++⟨kmin s.key s1.key,s1.page,s1.fst,s1.pairs,s1.pages⟩::(rest++post)).flatMap Sub.pages:=by
     rw [hC]
     simp only [List.mem_append,not_or]
     refine ⟨fun e=>n1 (hpp page (.inl e)).1,fun e=>r1.new page e ⟨hlp,fun e=>n1 (hsp page e)⟩,fun e=>n1 (hpp page (.inr e)).1⟩
    have hlC:∀q∈(pre++⟨kmin s.key s1.key,s1.page,s1.fst,s1.pairs,s1.pages⟩::(rest++post)).flatMap Sub.pages,live B w1 q:=fun q hq=>by
     rw [hC] at hq
     simp only [List.mem_append] at hq
     rw [r1.now]
     rcases hq with hq|hq|hq
     ·obtain ⟨g1,g2⟩:=hpp q (.inl hq);exact .inl ⟨hlv q g1,g2⟩
     ·exact .inr hq
     ·obtain ⟨g1,g2⟩:=hpp q (.inr hq);exact .inl ⟨hlv q g1,g2⟩
    generalize hSS:pre++(⟨kmin s.key s1.key,s1.page,s1.fst,s1.pairs,s1.pages⟩:Sub)::(rest++post)=S at*
    obtain ⟨x,parts,p1,p2,p3,p4,p5,p6,p7⟩:=split_branch (rd:=rdW w1.fDisk) (h:=h) hT hS
    rw [p2] at ha
    obtain ⟨subs,e5,r⟩:=anew_spec (h:=h+1) r1.ok p1 p3 (by rw [p4];exact hnd) (by rw [p4];exact hlC) hlp1 (by rw [p4];exact hpC) p6 ha
    refine ⟨subs,e5,?_⟩
    rw [p4,p5,p7] at r
    have hpairs:S.flatMap Sub.pairs=mput ps key val:=by
     rw [←hSS,h8,e1]
     simp only [List.flatMap_append,List.flatMap_cons]
     have:=mput_mid (a:=pre.flatMap Sub.pairs) (b:=s.pairs) (c:=post.flatMap Sub.pairs) (k:=key) (v:=val) (fun q hq=>by
      obtain ⟨k,hk,hq⟩:=List.mem_flatMap.1 hq
      have hp:pre≠ []:=fun e=>by rw [e] at hk;cases hk
      exact klt_of_klt_kle (hpre k hk q hq) (e3 hp)) (fun q hq=>by
      obtain ⟨k,hk,hq⟩:=List.mem_flatMap.1 hq
      exact klt_of_klt_kle (e4 k hk) (hlow k (by rw [e1];simp [hk]) q hq))
     rw [List.append_assoc] at this
     rw [this,←hps]
     simp [List.append_assoc]
    have hfirst:firstKey (branchOf (S.map subKP))=kmin fk key:=by
     rw [←hSS,h3]
     unfold firstKey
     rw [h4,e1,branchOf_keys]
     cases hp:pre with
     |nil=>
      show kmin s.key s1.key=kmin s.key key
      rw [k1,f1];exact kmin_kmin (o5 s (by simp))
     |cons y l=>
      have hne:pre≠ []:=by rw [hp];simp
      have hmem:y∈pre:=by rw [hp];simp
      show y.key=kmin y.key key
      have hasc:=hok.2.2.1
      rw [h4,e1,hp] at hasc
      simp only [List.cons_append,List.map_cons] at hasc
      have h1:kle y.key s.key:=asc_head hasc s.key (by simp)
      rw [kmin_left (kle_trans h1 (e3 hne))]
    rw [hpairs,hfirst] at r
    have hSp:∀q,q∈S.flatMap Sub.pages↔q∈pre.flatMap Sub.pages∨q∈(s1::rest).flatMap Sub.pages∨q∈post.flatMap Sub.pages:=fun q=>by rw [hC];simp only [List.mem_append]
    refine ⟨r.ok,r.tre,r.key,r.sok,r.pairs,r.nodup,fun q=>?_,fun q hq=>?_,fun q hq ho=>?_,fun q hq=>?_,r.head,r.two⟩
    ·rw [r.now,r1.now,h9]
     simp only [List.mem_cons,not_or,hSp,hksp]
     constructor
     ·rintro (⟨h|h,h2,h3,h4,h5⟩|h)
      ·exact .inl ⟨h.1,h2,h3,h.2,h5⟩
      ·exact absurd h h4
      ·exact .inr h
     ·rintro (⟨g0,g2,g3,g4,g5⟩|h)
      ·exact .inl ⟨.inl ⟨g0,g4⟩,g2,g3,fun e=>r1.new q e ⟨g0,g4⟩,g5⟩
      ·exact .inr h
    ·rw [h9]
     simp only [List.mem_cons,not_or,hksp]
     rintro ⟨g1,g2,g3,g4,g5⟩
     refine r.new q hq ⟨(r1.now q).2 (.inl ⟨g1,g4⟩),?_⟩
     simp only [List.mem_cons,not_or,hSp]
     exact ⟨g2,g3,fun e=>r1.new q e ⟨g1,g4⟩,g5⟩
    ·rw [h9] at ho
     simp only [List.mem_cons,not_or,hksp] at ho
     obtain ⟨g2,g3,g4,g5⟩:=ho
     rw [r.keep q ((r1.now q).2 (.inl ⟨hq,g4⟩)) (by simp only [List.mem_cons,not_or,hSp];exact ⟨g2,g3,fun e=>r1.new q e ⟨hq,g4⟩,g5⟩),r1.keep q hq g4]
    ·rw [r.far q hq,r1.far q hq]
end Go.Rx
namespace Go.Rx
open Go
def putK (w:GWork) (root:Int) (key val:Key):Option (GWork×Int):=
 if 24<key.length∨24<val.length then none
 else if root=0 then putN w (leafB [⟨key,val⟩])
 else match putU 8 w root key val with
  |none=>none
  |some (w1,kk,dp)=>match kk with
   |[]=>none
   |[k]=>some (w1,k.2)
   |k1::k2::_=>if 7≤dp then none else putN w1 (branchOf [k1,k2])
structure Txs (ours:Int→Prop) (B:List Int) (w:GWork) (root:Int) (ps:List GPair) (pg:List Int):Prop where
 ok:WOK ours B w
 tree:TreeAt (rdW w.fDisk) root ps pg
 now:∀q,live B w q↔q∈pg
theorem putN_anew {w w1:GWork} {n:GNode} {p old:Int} (h:putN w n=some (w1,p)):anewN w [n] old=some (dropP w1 old,[(firstKey n,p)]):=by
 simp [anewN,putS,h]
theorem root_node {ours:Int→Prop} {B:List Int} {w w':GWork} {h:Nat} {n:GNode} {ps:List GPair} {C:List Int} {p:Int} (hw:WOK ours B w) (hc:Cand (rdW w.fDisk) h n ps C) (hn:C.Nodup) (hl:∀q,live B w q↔q∈C) (h8:h<8)
  (hp:putN w n=some (w',p)):Txs ours B w' p ps (p::C)∧∀q,¬ours q→rdW w'.fDisk q=rdW w.fDisk q:=by
 have g:=putN_spec hw hp
 have hpC:p∉C:=fun e=>g.dead ((hl p).2 e)
 have hlow:=g.low
 refine ⟨⟨g.ok,.inr ⟨by omega,List.nodup_cons.2 ⟨hpC,hn⟩,h,_,h8,tre_iff.2 ⟨n,C,g.rd,rfl,hc.frame fun q hq=>g.rdo q fun e=>hpC (e▸hq),rfl⟩⟩,fun q=>?_⟩,fun q hq=>g.rdo q fun e=>hq (e▸g.our)⟩
 rw [g.now,hl,List.mem_cons]
 constructor
 ·rintro (h|h)
  ·exact .inr h
  ·exact .inl h
 ·rintro (h|h)
  ·exact .inr h
  ·exact .inl h
theorem putK_spec {ours:Int→Prop} {B:List Int} {w w':GWork} {root r':Int} {ps:List GPair} {pg:List Int} {key val:Key} (h:Txs ours B w root ps pg) (he:putK w root key val=some (w',r')):
  ∃pg',Txs ours B w' r' (mput ps key val) pg'∧∀q,¬ours q→rdW w'.fDisk q=rdW w.fDisk q:=by
 unfold putK at he
 split at he
 ·cases he
 ·split at he
  ·rename_i hr
   rcases h.tree with ⟨_,h2,h3⟩|⟨h1,_⟩
   ·have hp:mput ps key val=[⟨key,val⟩]:=by rw [h2];rfl
    have hl:∀q,live B w q↔q∈([]:List Int):=fun q=>by rw [h.now,h3]
    rw [hp]
    exact ⟨_,root_node (h:=0) h.ok ⟨rfl,pairsOf_leafB.symm,rfl⟩ (by simp) hl (by omega) he⟩
   ·exact absurd hr h1
  ·rename_i hr
   rcases h.tree with ⟨h1,_⟩|⟨h1,h2,ht,f,h3,h4⟩
   ·exact absurd h1 hr
   ·split at he
    ·cases he
    ·rename_i w1 kk dp hu
     obtain ⟨hdp,subs,rfl,r⟩:=putU_spec h.ok h4 h2 (fun q hq=>(h.now q).2 hq) hu
     obtain ⟨s,rest,rfl,f1,f2⟩:=r.head
     have hlive:∀q,live B w1 q↔q∈(s::rest).flatMap Sub.pages:=fun q=>by
      rw [r.now]
      constructor
      ·rintro (⟨h5,h6⟩|h5)
       ·exact absurd ((h.now q).1 h5) h6
       ·exact h5
      ·exact .inr
     cases rest with
     |nil=>
      simp only [List.map_cons,List.map_nil,Option.some.injEq,Prod.mk.injEq] at he
      obtain ⟨rfl,rfl⟩:=he
      have ht1:=r.tre s (by simp)
      have hp:=r.pairs
      simp only [List.flatMap_cons,List.flatMap_nil,List.append_nil] at hp hlive
      have hnd:=r.nodup
      simp only [List.flatMap_cons,List.flatMap_nil,List.append_nil] at hnd
      have hne:s.page≠0:=by have:=r.two s (by simp);omega
      rw [←hp]
      exact ⟨s.pages,⟨r.ok,.inr ⟨hne,hnd,ht,_,h3,ht1⟩,hlive⟩,r.far⟩
     |cons s2 rest=>
      have hr0:rest=[]:=by simpa using f2
      subst hr0
      simp only [List.map_cons,List.map_nil] at he
      split at he
      ·cases he
      ·rename_i h7
       have hp:=r.pairs
       have hc:=cand_branch (S:=[s,s2]) r.tre r.sok
       obtain ⟨e1,e2⟩:=root_node (h:=ht+1) r.ok hc r.nodup hlive (by omega) he
       rw [hp] at e1
       exact ⟨_,e1,fun q hq=>by rw [e2 q hq,r.far q hq]⟩
end Go.Rx
namespace Go.Rx
open Go
def getK:Nat→RD→Int→Key→Option Key
 |0,_,_,_=>none
 |f+1,rd,page,key=>match rd page with
  |none=>none
  |some n=>if placeI n.fKeys key<0 then none
   else if n.fLeaf=true then if n.fKeys.getD (placeI n.fKeys key).toNat []=key then some (n.fVals.getD (placeI n.fKeys key).toNat []) else none
   else getK f rd (n.fKids.getD (placeI n.fKeys key).toNat 0) key
theorem leaf_place {n:GNode} {key:Key} (hok:nodeOk n) (hl:n.fLeaf=true):
  (placeI n.fKeys key= -1∧∀p∈pairsOf n,klt key p.fKey)∨
  ∃a x b,pairsOf n=a++x::b∧placeI n.fKeys key=(a.length:Int)∧kle x.fKey key∧(∀p∈b,klt key p.fKey)∧(∀p∈a,klt p.fKey x.fKey)∧n.fKeys.getD a.length []=x.fKey∧n.fVals.getD a.length []=x.fVal:=by
 have hk:=pairsOf_keys hok hl
 have hn:=leafB_pairs hok hl
 have ha:ascP (pairsOf n):=by rw [ascP_keys,hk];exact hok.2.2.1
 rcases placeI_cases n.fKeys key with ⟨h1,h2⟩|⟨pre,k,post,h1,h2,h3,h4⟩
 ·refine .inl ⟨h1,fun p hp=>h2 _ ?_⟩
  rw [←hk];exact List.mem_map.2 ⟨p,hp,rfl⟩
 ·right
  rw [←hk] at h1
  obtain ⟨a,b',e1,e2,e3⟩:=List.map_eq_append_iff.1 h1
  cases b' with
  |nil=>simp at e3
  |cons x b=>
   simp only [List.map_cons,List.cons.injEq] at e3
   have hlen:a.length=pre.length:=by rw [←e2];simp
   rw [e1] at ha
   refine ⟨a,x,b,e1,by rw [h2,hlen],by rw [e3.1];exact h3,fun p hp=>h4 _ (by rw [←e3.2];exact List.mem_map.2 ⟨p,hp,rfl⟩),fun p hp=>(List.pairwise_append.1 ha).2.2 p hp x (by simp),?_,?_⟩
   ·rw [←hn,e1]
    have h:=getD_mid (a:=a.map (·.fKey)) (b:=b.map (·.fKey)) (x:=x.fKey) (d:=([]:Key))
    rw [List.length_map] at h
    simp only [leafB,List.map_append,List.map_cons];exact h
   ·rw [←hn,e1]
    have h:=getD_mid (a:=a.map (·.fVal)) (b:=b.map (·.fVal)) (x:=x.fVal) (d:=([]:Key))
    rw [List.length_map] at h
    simp only [leafB,List.map_append,List.map_cons];exact h
theorem branch_place {n:GNode} {ks:List Sub} {key:Key} (h4:n.fKeys=ks.map Sub.key) (h5:n.fKids=ks.map Sub.page):
  (placeI n.fKeys key= -1∧∀k∈ks,klt key k.key)∨
  ∃pre s post,ks=pre++s::post∧placeI n.fKeys key=(pre.length:Int)∧kle s.key key∧(∀k∈post,klt key k.key)∧n.fKids.getD pre.length 0=s.page:=by
 rcases placeI_cases n.fKeys key with ⟨h1,h2⟩|⟨pre,k,post,h1,h2,h3,h6⟩
 ·exact .inl ⟨h1,fun k hk=>h2 _ (by rw [h4];exact List.mem_map.2 ⟨k,hk,rfl⟩)⟩
 ·right
  rw [h4] at h1
  obtain ⟨a,b',e1,e2,e3⟩:=List.map_eq_append_iff.1 h1
  cases b' with
  |nil=>simp at e3
  |cons s b=>
   simp only [List.map_cons,List.cons.injEq] at e3
   have hlen:a.length=pre.length:=by rw [←e2];simp
   refine ⟨a,s,b,e1,by rw [h2,hlen],by rw [e3.1];exact h3,fun k hk=>h6 _ (by rw [←e3.2];exact List.mem_map.2 ⟨k,hk,rfl⟩),?_⟩
   rw [h5,e1]
   have h:=getD_mid (a:=a.map Sub.page) (b:=b.map Sub.page) (x:=s.page) (d:=(0:Int))
   rw [List.length_map] at h
   rw [List.map_append,List.map_cons];exact h
theorem around {rd:RD} (ho:rdOk rd) {h:Nat} {pre post:List Sub} {s:Sub} {key:Key} (hs:subsOk (pre++s::post)) (ht:∀k∈pre++s::post,Tre rd h k.page k.fst k.pairs k.pages) (h3:kle s.key key) (h4:∀k∈post,klt key k.key):
  (∀q∈pre.flatMap Sub.pairs,klt q.fKey key)∧(∀q∈post.flatMap Sub.pairs,klt key q.fKey):=by
 obtain ⟨_,o2,o3⟩:=subsOk_append.1 hs
 constructor
 ·intro q hq
  obtain ⟨k,hk,hq⟩:=List.mem_flatMap.1 hq
  exact klt_of_klt_kle (o3 k hk s (by simp) q hq) h3
 ·intro q hq
  obtain ⟨k,hk,hq⟩:=List.mem_flatMap.1 hq
  exact klt_of_klt_kle (h4 k hk) (kle_trans (hs.1 k (by simp [hk])) ((ht k (by simp [hk])).low ho q hq))
def finU (w:GWork) (n:GNode) (page:Int):Option (GWork×Int):=
 if n.fKeys=[] then some (dropP w page,0) else match putN w n with
  |none=>none
  |some (w',p)=>some (dropP w' page,p)
def dropU:Nat→GWork→Int→Key→Option (GWork×Int)
 |0,_,_,_=>none
 |f+1,w,page,key=>match rdW w.fDisk page with
  |none=>none
  |some n=>if placeI n.fKeys key<0 then none
   else if n.fLeaf=true then
    if n.fKeys.getD (placeI n.fKeys key).toNat []=key then finU w (leafB ((pairsOf n).eraseIdx (placeI n.fKeys key).toNat)) page else none
   else match dropU f w (n.fKids.getD (placeI n.fKeys key).toNat 0) key with
    |none=>none
    |some (w1,k)=>finU w1 (branchOf (if k=0 then (n.fKeys.zip n.fKids).eraseIdx (placeI n.fKeys key).toNat
      else (n.fKeys.zip n.fKids).set (placeI n.fKeys key).toNat (((n.fKeys.zip n.fKids).getD (placeI n.fKeys key).toNat ([],0)).1,k))) page
structure Dropped (ours:Int→Prop) (B:List Int) (w w':GWork) (h:Nat) (old:List Int) (p:Int) (f:Key) (ps:List GPair) (pg:List Int):Prop where
 ok:WOK ours B w'
 tre:(p=0∧ps=[]∧pg=[])∨(2≤p∧∃f',kle f f'∧Tre (rdW w'.fDisk) h p f' ps pg)
 nodup:pg.Nodup
 now:∀q,live B w' q↔(live B w q∧q∉old)∨q∈pg
 new:∀q∈pg,¬(live B w q∧q∉old)
 keep:∀q,live B w q→q∉old→rdW w'.fDisk q=rdW w.fDisk q
 far:∀q,¬ours q→rdW w'.fDisk q=rdW w.fDisk q
theorem finU_spec {ours:Int→Prop} {B:List Int} {h:Nat} {n:GNode} {ps:List GPair} {C:List Int} {w w':GWork} {page p:Int} {f:Key} (hw:WOK ours B w) (hc:Cand (rdW w.fDisk) h n ps C) (hn:C.Nodup) (hl:∀q∈C,live B w q)
  (hp:live B w page) (hpc:page∉C) (hz:n.fKeys=[]→ps=[]∧C=[]) (hf:n.fKeys≠ []→kle f (firstKey n)) (he:finU w n page=some (w',p)):∃pg,Dropped ours B w w' h (page::C) p f ps pg:=by
 unfold finU at he
 split at he
 ·rename_i hk
  simp only [Option.some.injEq,Prod.mk.injEq] at he
  obtain ⟨rfl,rfl⟩:=he
  obtain ⟨h1,h2⟩:=hz hk
  obtain ⟨d1,d2⟩:=dropP_spec hw hp
  subst h1 h2
  refine ⟨[],d1,.inl ⟨rfl,rfl,rfl⟩,by simp,fun q=>?_,by simp,fun q _ _=>by rw [dropP_disk],fun q _=>by rw [dropP_disk]⟩
  rw [d2];simp
 ·rename_i hk
  split at he
  ·cases he
  ·rename_i w1 p1 hput
   simp only [Option.some.injEq,Prod.mk.injEq] at he
   obtain ⟨rfl,rfl⟩:=he
   have ha:=putN_anew (old:=page) hput
   obtain ⟨subs,e,r⟩:=anew_spec (x:=⟨n,ps,C⟩) (parts:=[]) (h:=h) hw (by simp) (fun y hy=>by simp at hy;subst hy;exact hc) (by simpa using hn) (by simpa using hl) hp (by simpa using hpc) (by simp) ha
   cases subs with
   |nil=>simp at e
   |cons s rest=>
    simp only [List.map_cons,List.cons.injEq,subKP,Prod.mk.injEq] at e
    obtain ⟨⟨e1,e2⟩,e3⟩:=e
    have:rest=[]:=by
     cases rest with
     |nil=>rfl
     |cons a b=>simp at e3
    subst this
    have hps:=r.pairs
    have hnd:=r.nodup
    have hnow:=r.now
    have hnew:=r.new
    simp only [List.flatMap_cons,List.flatMap_nil,List.append_nil] at hps hnd hnow hnew
    refine ⟨s.pages,r.ok,.inr ⟨by rw [e2];exact r.two s (by simp),s.fst,?_,by rw [e2,←hps];exact r.tre s (by simp)⟩,hnd,hnow,hnew,fun q h1 h2=>r.keep q h1 (by simpa using h2),r.far⟩
    rw [←r.key s (by simp),←e1]
    exact hf hk
theorem mdrop_one {a b:List GPair} {x:GPair} {key:Key} (h:ascP (a++x::b)) (hx:x.fKey=key):mdrop (a++x::b) key=a++b:=by
 have h1:=(List.pairwise_append.1 h).2.2
 have h2:=(List.pairwise_cons.1 (List.pairwise_append.1 h).2.1).1
 have:=mdrop_mid (a:=a) (b:=[x]) (c:=b) (k:=key) (fun p hp=>by rw [←hx];exact h1 p hp x (by simp)) (fun p hp=>by rw [←hx];exact h2 p hp)
 rw [List.append_assoc,List.singleton_append] at this
 rw [this]
 simp [mdrop,hx]
theorem erase_mid {α:Type} {a b:List α} {x:α}:(a++x::b).eraseIdx a.length=a++b:=by
 rw [List.eraseIdx_append_of_length_le (Nat.le_refl _)];simp
theorem set_mid {α:Type} {a b:List α} {x y:α}:(a++x::b).set a.length y=a++y::b:=by
 rw [List.set_append_right _ _ (Nat.le_refl _)];simp
end Go.Rx
namespace Go.Rx
open Go
theorem dropU_spec {ours:Int→Prop} {B:List Int} {key:Key}:∀ {f h:Nat} {w w':GWork} {page p:Int} {fk:Key} {ps:List GPair} {pg:List Int},WOK ours B w→
  Tre (rdW w.fDisk) h page fk ps pg→pg.Nodup→(∀q∈pg,live B w q)→dropU f w page key=some (w',p)→
  (∃q∈ps,q.fKey=key)∧∃pg',Dropped ours B w w' h pg p fk (mdrop ps key) pg'
 |0,h,w,w',page,p,fk,ps,pg,hw,ht,hn,hl,he=>by cases he
 |f+1,0,w,w',page,p,fk,ps,pg,hw,⟨n,h1,h2,h3,h4,h5⟩,hn,hl,he=>by
  rw [dropU,h1] at he
  simp only [h2,if_true] at he
  have hok:=rdW_ok _ _ h1
  rcases leaf_place (key:=key) hok h2 with ⟨g1,g2⟩|⟨a,x,b,g1,g2,g3,g4,g5,g6,g7⟩
  ·rw [g1,if_pos (by omega)] at he;cases he
  ·rw [g2,if_neg (by omega),Int.toNat_natCast,g6] at he
   split at he
   ·rename_i hx
    have ha:ascP (pairsOf n):=by rw [ascP_keys,pairsOf_keys hok h2];exact hok.2.2.1
    rw [g1] at ha
    rw [g1,erase_mid] at he
    refine ⟨⟨x,by rw [h4,g1];simp,hx⟩,?_⟩
    have hd:=mdrop_one ha hx
    have hfa:firstKey n=firstKey (leafB (a++x::b)):=by rw [←g1,leafB_pairs hok h2]
    obtain ⟨pg',r⟩:=finU_spec (h:=0) (ps:=a++b) (C:=[]) (f:=fk) hw ⟨rfl,pairsOf_leafB.symm,rfl⟩ (by simp) (by simp) (hl page (by rw [h5];simp)) (by simp)
     (fun e=>by
      have:(a++b).map (·.fKey)=[]:=e
      exact ⟨by simpa using this,rfl⟩)
     (fun e=>by
      rw [h3,hfa]
      cases a with
      |nil=>
       cases b with
       |nil=>exact absurd rfl e
       |cons y b=>
        show kle x.fKey y.fKey
        exact kle_of_klt ((List.pairwise_cons.1 ha).1 y (by simp))
      |cons y a=>exact kle_refl) he
    refine ⟨pg',?_⟩
    rw [h4,g1,hd,h5];exact r
   ·cases he
 |f+1,h+1,w,w',page,p,fk,ps,pg,hw,⟨n,ks,h1,h2,h3,h4,h5,h6,h7,h8,h9⟩,hn,hl,he=>by
  rw [dropU,h1] at he
  simp only [h2,Bool.false_eq_true,if_false] at he
  have hok:=rdW_ok _ _ h1
  rcases branch_place (key:=key) h4 h5 with ⟨g1,g2⟩|⟨pre,s,post,g1,g2,g3,g4,g5⟩
  ·rw [g1,if_pos (by omega)] at he;cases he
  ·rw [g2,if_neg (by omega),Int.toNat_natCast,g5,zip_subs h4 h5] at he
   have hs:s∈ks:=by rw [g1];simp
   rw [h9] at hn hl
   obtain ⟨n1,n2⟩:=List.nodup_cons.1 hn
   have hsp:∀q∈s.pages,q∈ks.flatMap Sub.pages:=fun q hq=>List.mem_flatMap.2 ⟨s,hs,hq⟩
   cases hu:dropU f w s.page key with
   |none=>rw [hu] at he;cases he
   |some r=>
    obtain ⟨w1,k⟩:=r
    rw [hu] at he
    simp only at he
    obtain ⟨hin,pg1,r1⟩:=dropU_spec hw (h6 s hs) (nodup_flat_mem n2 hs) (fun q hq=>hl q (List.mem_cons_of_mem _ (hsp q hq))) hu
    obtain ⟨q0,hq0,hk0⟩:=hin
    refine ⟨⟨q0,by rw [h8];exact List.mem_flatMap.2 ⟨s,hs,hq0⟩,hk0⟩,?_⟩
    have h6':=h6
    rw [g1] at h7 h6'
    obtain ⟨a1,a2⟩:=around rdW_ok h7 h6' g3 g4
    obtain ⟨o1,o2,o3⟩:=subsOk_append.1 h7
    have o4:=List.pairwise_cons.1 o2.2
    have hlv:∀q∈ks.flatMap Sub.pages,live B w q:=fun q hq=>hl q (List.mem_cons_of_mem _ hq)
    have hksp:∀q,q∈ks.flatMap Sub.pages↔q∈pre.flatMap Sub.pages∨q∈s.pages∨q∈post.flatMap Sub.pages:=fun q=>by
     rw [g1,List.flatMap_append,List.flatMap_cons];simp only [List.mem_append]
    have hap:∀k∈pre++post,k∈ks∧∀q∈k.pages,q∉s.pages:=fun k hk=>by
     have hk':k∈ks:=by
      rw [g1];rcases List.mem_append.1 hk with h|h
      ·simp [h]
      ·simp [h]
     refine ⟨hk',fun q hq hqs=>?_⟩
     rw [g1,List.flatMap_append,List.flatMap_cons] at n2
     obtain ⟨_,m1,m2⟩:=List.nodup_append.1 n2
     obtain ⟨_,_,m3⟩:=List.nodup_append.1 m1
     rcases List.mem_append.1 hk with h|h
     ·exact m2 q (List.mem_flatMap.2 ⟨k,h,hq⟩) q (List.mem_append_left _ hqs) rfl
     ·exact m3 q hqs q (List.mem_flatMap.2 ⟨k,h,hq⟩) rfl
    have hpp:∀q,q∈pre.flatMap Sub.pages∨q∈post.flatMap Sub.pages→q∈ks.flatMap Sub.pages∧q∉s.pages:=fun q hq=>by
     have:∃k∈pre++post,q∈k.pages:=by
      rcases hq with hq|hq
      ·obtain ⟨k,hk,hq⟩:=List.mem_flatMap.1 hq;exact ⟨k,by simp [hk],hq⟩
      ·obtain ⟨k,hk,hq⟩:=List.mem_flatMap.1 hq;exact ⟨k,by simp [hk],hq⟩
     obtain ⟨k,hk,hq⟩:=this
     obtain ⟨b1,b2⟩:=hap k hk
     exact ⟨List.mem_flatMap.2 ⟨k,b1,hq⟩,b2 q hq⟩
    have hold:∀k∈pre++post,Tre (rdW w1.fDisk) h k.page k.fst k.pairs k.pages:=fun k hk=>by
     obtain ⟨b1,b2⟩:=hap k hk
     exact (h6 k b1).frame fun q hq=>r1.keep q (hlv q (List.mem_flatMap.2 ⟨k,b1,hq⟩)) (b2 q hq)
    have hlp:live B w page:=hl page (by simp)
    have hps:page∉s.pages:=fun e=>n1 (hsp page e)
    have hlp1:live B w1 page:=(r1.now page).2 (.inl ⟨hlp,hps⟩)
    obtain ⟨S,hS1,hS2,hS3,hS4,hS5,hS6⟩:∃S:List Sub,(if k=0 then ((pre++s::post).map subKP).eraseIdx pre.length else ((pre++s::post).map subKP).set pre.length ((((pre++s::post).map subKP).getD pre.length ([],0)).1,k))=S.map subKP∧
      subsOk S∧(∀k∈S,Tre (rdW w1.fDisk) h k.page k.fst k.pairs k.pages)∧S.flatMap Sub.pairs=mdrop ps key∧
      S.flatMap Sub.pages=pre.flatMap Sub.pages++(pg1++post.flatMap Sub.pages)∧(S≠ []→kle fk (firstKey (branchOf (S.map subKP)))):=by
     have hmid:mdrop ps key=pre.flatMap Sub.pairs++mdrop s.pairs key++post.flatMap Sub.pairs:=by
      rw [h8,g1,List.flatMap_append,List.flatMap_cons,←List.append_assoc,mdrop_mid a1 a2]
     have hasc:=hok.2.2.1
     rw [h4,g1] at hasc
     have hfk:fk=(((pre++s::post).map Sub.key).headD []):=by rw [h3];unfold firstKey;rw [h4,g1]
     rcases r1.tre with ⟨c1,c2,c3⟩|⟨c1,f',c2,c3⟩
     ·refine ⟨pre++post,?_,?_,hold,?_,?_,?_⟩
      ·rw [if_pos c1,List.map_append,List.map_cons]
       have:=erase_mid (a:=pre.map subKP) (b:=post.map subKP) (x:=subKP s)
       rw [List.length_map] at this
       rw [this,←List.map_append]
      ·exact subsOk_append.2 ⟨o1,⟨fun k hk=>o2.1 k (by simp [hk]),o4.2⟩,fun x hx y hy=>o3 x hx y (by simp [hy])⟩
      ·rw [hmid,c2];simp
      ·rw [c3];simp
      ·intro hne
       rw [hfk]
       cases pre with
       |cons y l=>exact kle_refl
       |nil=>
        cases post with
        |nil=>exact absurd rfl hne
        |cons y l=>
         show kle s.key y.key
         exact asc_head hasc y.key (by simp)
     ·refine ⟨pre++⟨s.key,k,f',mdrop s.pairs key,pg1⟩::post,?_,?_,?_,?_,?_,?_⟩
      ·rw [if_neg (by omega),List.map_append,List.map_cons]
       have e1:=set_mid (a:=pre.map subKP) (b:=post.map subKP) (x:=subKP s) (y:=(((((pre.map subKP)++subKP s::post.map subKP)).getD pre.length ([],0)).1,k))
       rw [List.length_map] at e1
       rw [e1]
       have h:=getD_mid (a:=pre.map subKP) (b:=post.map subKP) (x:=subKP s) (d:=(([]:Key),(0:Int)))
       rw [List.length_map] at h
       rw [h,List.map_append,List.map_cons];rfl
      ·refine subsOk_append.2 ⟨o1,⟨fun k hk=>?_,List.pairwise_cons.2 ⟨fun y hy q hq=>?_,o4.2⟩⟩,fun x hx y hy q hq=>?_⟩
       ·rcases List.mem_cons.1 hk with rfl|hk
        ·exact kle_trans (o2.1 s (by simp)) c2
        ·exact o2.1 k (by simp [hk])
       ·exact o4.1 y hy q (List.mem_filter.1 hq).1
       ·rcases List.mem_cons.1 hy with rfl|hy
        ·exact o3 x hx s (by simp) q hq
        ·exact o3 x hx y (by simp [hy]) q hq
      ·intro k hk
       rcases List.mem_append.1 hk with hk|hk
       ·exact hold k (by simp [hk])
       ·rcases List.mem_cons.1 hk with rfl|hk
        ·exact c3
        ·exact hold k (by simp [hk])
      ·rw [hmid];simp [List.flatMap_append,List.flatMap_cons,List.append_assoc]
      ·simp [List.flatMap_append,List.flatMap_cons]
      ·intro _
       rw [hfk]
       cases pre with
       |cons y l=>exact kle_refl
       |nil=>exact kle_refl
    rw [g1,hS1] at he
    have hSp:∀q,q∈S.flatMap Sub.pages↔q∈pre.flatMap Sub.pages∨q∈pg1∨q∈post.flatMap Sub.pages:=fun q=>by rw [hS5];simp only [List.mem_append]
    have hnd:(S.flatMap Sub.pages).Nodup:=by
     rw [hS5,List.nodup_append,List.nodup_append]
     rw [g1,List.flatMap_append,List.flatMap_cons] at n2
     obtain ⟨m0,m1,m2⟩:=List.nodup_append.1 n2
     obtain ⟨_,m4,m3⟩:=List.nodup_append.1 m1
     refine ⟨m0,⟨r1.nodup,m4,fun a ha b hb e=>?_⟩,fun a ha b hb e=>?_⟩
     ·subst e
      obtain ⟨b1,b2⟩:=hpp a (.inr hb)
      exact r1.new a ha ⟨hlv a b1,b2⟩
     ·subst e
      rcases List.mem_append.1 hb with hb|hb
      ·obtain ⟨b1,b2⟩:=hpp a (.inl ha)
       exact r1.new a hb ⟨hlv a b1,b2⟩
      ·exact m2 a ha a (List.mem_append_right _ hb) rfl
    obtain ⟨pg',r⟩:=finU_spec (h:=h+1) (f:=fk) r1.ok (cand_branch hS3 hS2) hnd
     (fun q hq=>by
      rw [hSp] at hq
      rw [r1.now]
      rcases hq with hq|hq|hq
      ·obtain ⟨b1,b2⟩:=hpp q (.inl hq);exact .inl ⟨hlv q b1,b2⟩
      ·exact .inr hq
      ·obtain ⟨b1,b2⟩:=hpp q (.inr hq);exact .inl ⟨hlv q b1,b2⟩)
     hlp1 (by
      rw [hSp]
      simp only [not_or]
      exact ⟨fun e=>n1 (hpp page (.inl e)).1,fun e=>r1.new page e ⟨hlp,hps⟩,fun e=>n1 (hpp page (.inr e)).1⟩)
     (fun e=>by
      rw [branchOf_keys] at e
      have:S=[]:=by simpa using e
      subst this;exact ⟨rfl,rfl⟩)
     (fun e=>hS6 fun e2=>e (by rw [e2];rfl)) he
    refine ⟨pg',?_⟩
    rw [hS4] at r
    refine ⟨r.ok,r.tre,r.nodup,fun q=>?_,fun q hq=>?_,fun q hq ho=>?_,fun q hq=>?_⟩
    ·rw [r.now,r1.now,h9]
     simp only [List.mem_cons,not_or,hSp,hksp]
     constructor
     ·rintro (⟨h|h,h2,h3,h4,h5⟩|h)
      ·exact .inl ⟨h.1,h2,h3,h.2,h5⟩
      ·exact absurd h h4
      ·exact .inr h
     ·rintro (⟨b0,b2,b3,b4,b5⟩|h)
      ·exact .inl ⟨.inl ⟨b0,b4⟩,b2,b3,fun e=>r1.new q e ⟨b0,b4⟩,b5⟩
      ·exact .inr h
    ·rw [h9]
     simp only [List.mem_cons,not_or,hksp]
     rintro ⟨b1,b2,b3,b4,b5⟩
     refine r.new q hq ⟨(r1.now q).2 (.inl ⟨b1,b4⟩),?_⟩
     simp only [List.mem_cons,not_or,hSp]
     exact ⟨b2,b3,fun e=>r1.new q e ⟨b1,b4⟩,b5⟩
    ·rw [h9] at ho
     simp only [List.mem_cons,not_or,hksp] at ho
     obtain ⟨b2,b3,b4,b5⟩:=ho
     rw [r.keep q ((r1.now q).2 (.inl ⟨hq,b4⟩)) (by simp only [List.mem_cons,not_or,hSp];exact ⟨b2,b3,fun e=>r1.new q e ⟨hq,b4⟩,b5⟩),r1.keep q hq b4]
    ·rw [r.far q hq,r1.far q hq]
def topU:Nat→GWork→Int→GWork×Int
 |0,w,top=>(w,top)
 |f+1,w,top=>if top=0 then (w,0) else match rdW w.fDisk top with
  |none=>(w,top)
  |some n=>if n.fLeaf=true∨1<n.fKids.length then (w,top) else topU f (dropP w top) (n.fKids.headD 0)
def dropK (w:GWork) (root:Int) (key:Key):Option (GWork×Int):=if root=0 then none else (dropU 8 w root key).map fun r=>topU 8 r.1 r.2
theorem topU_spec {ours:Int→Prop} {B:List Int}:∀ {f h:Nat} {w:GWork} {top:Int} {fk:Key} {ps:List GPair} {pg:List Int},h<f→h<8→2≤top→WOK ours B w→Tre (rdW w.fDisk) h top fk ps pg→pg.Nodup→(∀q,live B w q↔q∈pg)→
  ∃pg',Txs ours B (topU f w top).1 (topU f w top).2 ps pg'∧(topU f w top).1.fDisk=w.fDisk
 |f+1,0,w,top,fk,ps,pg,hf,h8,h2,hw,ht,hn,hl=>by
  have ht':=ht
  obtain ⟨n,h1,hleaf,h3,h4,h5⟩:=ht
  rw [topU,if_neg (by omega),h1]
  simp only
  rw [if_pos (.inl hleaf)]
  exact ⟨pg,⟨hw,.inr ⟨by simp only;omega,hn,0,fk,h8,ht'⟩,hl⟩,rfl⟩
 |f+1,h+1,w,top,fk,ps,pg,hf,h8,h2,hw,ht,hn,hl=>by
  have ht':=ht
  obtain ⟨n,ks,h1,hleaf,h3,h4,h5,h6,h7,h8',h9⟩:=ht
  rw [topU,if_neg (by omega),h1]
  simp only
  by_cases hc:n.fLeaf=true∨1<n.fKids.length
  ·rw [if_pos hc]
   exact ⟨pg,⟨hw,.inr ⟨by simp only;omega,hn,h+1,fk,h8,ht'⟩,hl⟩,rfl⟩
  ·rw [if_neg hc]
   have hok:=rdW_ok _ _ h1
   obtain ⟨k,rfl⟩:∃k,ks=[k]:=by
    have h10:=hok.1
    rw [h4,List.length_map] at h10
    have h11:¬1<n.fKids.length:=fun e=>hc (.inr e)
    rw [h5,List.length_map] at h11
    match ks,h10,h11 with
    |[k],_,_=>exact ⟨k,rfl⟩
    |_::_::_,_,h=>simp at h
   have hk:=h6 k (by simp)
   have hkid:n.fKids.headD 0=k.page:=by rw [h5];rfl
   rw [hkid]
   simp only [List.flatMap_cons,List.flatMap_nil,List.append_nil] at h8' h9
   rw [h9] at hn hl
   obtain ⟨n1,n2⟩:=List.nodup_cons.1 hn
   obtain ⟨d1,d2⟩:=dropP_spec hw ((hl top).2 (by simp))
   have h5':=hok.2.2.2.2
   rw [if_neg (by rw [hleaf];simp)] at h5'
   have hk2:=(h5'.2.2.1 k.page (by rw [h5];simp)).1
   obtain ⟨pg',r1,r2⟩:=topU_spec (f:=f) (h:=h) (w:=dropP w top) (by omega) (by omega) hk2 d1 (by rw [dropP_disk];exact hk) n2 (fun q=>by
    rw [d2,hl,List.mem_cons]
    constructor
    ·rintro ⟨h|h,h2⟩
     ·exact absurd h h2
     ·exact h
    ·exact fun h=>⟨.inr h,fun e=>n1 (e▸h)⟩)
   rw [h8']
   exact ⟨pg',r1,by rw [r2,dropP_disk]⟩
theorem dropK_spec {ours:Int→Prop} {B:List Int} {w w':GWork} {root r':Int} {ps:List GPair} {pg:List Int} {key:Key} (h:Txs ours B w root ps pg) (he:dropK w root key=some (w',r')):
  (∃q∈ps,q.fKey=key)∧∃pg',Txs ours B w' r' (mdrop ps key) pg'∧∀q,¬ours q→rdW w'.fDisk q=rdW w.fDisk q:=by
 unfold dropK at he
 split at he
 ·cases he
 ·rename_i hr
  rcases h.tree with ⟨h1,_⟩|⟨h1,h2,ht,f,h3,h4⟩
  ·exact absurd h1 hr
  ·cases hu:dropU 8 w root key with
   |none=>rw [hu] at he;cases he
   |some r=>
    obtain ⟨w1,k⟩:=r
    rw [hu] at he
    simp only [Option.map_some,Option.some.injEq] at he
    obtain ⟨hin,pg1,r⟩:=dropU_spec h.ok h4 h2 (fun q hq=>(h.now q).2 hq) hu
    refine ⟨hin,?_⟩
    have hlive:∀q,live B w1 q↔q∈pg1:=fun q=>by
     rw [r.now]
     constructor
     ·rintro (⟨h5,h6⟩|h5)
      ·exact absurd ((h.now q).1 h5) h6
      ·exact h5
     ·exact .inr
    rcases r.tre with ⟨c1,c2,c3⟩|⟨c1,f',c2,c3⟩
    ·rw [c1] at he
     simp only [topU,if_true,Prod.mk.injEq] at he
     obtain ⟨rfl,rfl⟩:=he
     exact ⟨pg1,⟨r.ok,.inl ⟨rfl,c2,c3⟩,hlive⟩,r.far⟩
    ·obtain ⟨pg',e1,e2⟩:=topU_spec (f:=8) h3 h3 c1 r.ok c3 r.nodup hlive
     rw [he] at e1 e2
     exact ⟨pg',e1,fun q hq=>by simp only at e2;rw [e2,r.far q hq]⟩
end Go.Rx
namespace Go.Rx
open Go
def insR (s:List Int) (x:Int):List Int:=(s.takeWhile fun y=>decide (y≤x))++x::s.dropWhile fun y=>decide (y≤x)
def sortI (l:List Int):List Int:=l.foldl insR []
def leS (l:List Int):Prop:=l.Pairwise (·≤·)
theorem takeW_le {x:Int}:∀ {s:List Int},∀y∈s.takeWhile (fun y=>decide (y≤x)),y≤x
 |s,y,hy=>by
  have:=List.all_eq_true.1 (List.all_takeWhile (p:=fun y=>decide (y≤x)) (l:=s)) y hy
  simpa using this
theorem dropW_gt {x:Int}:∀ {s:List Int},leS s→∀y∈s.dropWhile (fun y=>decide (y≤x)),x<y
 |[],_,y,hy=>by cases hy
 |z::s,hs,y,hy=>by
  obtain ⟨h1,h2⟩:=List.pairwise_cons.1 hs
  rw [List.dropWhile_cons] at hy
  by_cases hz:z≤x
  ·rw [if_pos (decide_eq_true hz)] at hy
   exact dropW_gt h2 y hy
  ·rw [if_neg (by simpa using hz)] at hy
   rcases List.mem_cons.1 hy with rfl|hy
   ·omega
   ·have:=h1 y hy;omega
theorem insR_perm {s:List Int} {x:Int}:(insR s x).Perm (x::s):=by
 unfold insR
 refine List.perm_middle.trans ?_
 rw [List.takeWhile_append_dropWhile]
theorem insR_sorted {s:List Int} {x:Int} (h:leS s):leS (insR s x):=by
 unfold insR
 have hs:leS (s.takeWhile (fun y=>decide (y≤x))++s.dropWhile (fun y=>decide (y≤x))):=by rw [List.takeWhile_append_dropWhile];exact h
 obtain ⟨h1,h2,h3⟩:=List.pairwise_append.1 hs
 unfold leS
 rw [List.pairwise_append,List.pairwise_cons]
 refine ⟨h1,⟨fun y hy=>by have:=dropW_gt h y hy;omega,h2⟩,fun a ha b hb=>?_⟩
 rcases List.mem_cons.1 hb with rfl|hb
 ·exact takeW_le a ha
 ·exact h3 a ha b hb
theorem insR_at {s:List Int} {x:Int} {k:Nat} (h:leS s) (hk:k≤s.length) (h1:∀y∈s.drop k,x<y) (h2:k=0∨∃y,s[k - 1]? =some y∧y≤x):insR s x=s.take k++x::s.drop k:=by
 have hle:∀y∈s.take k,y≤x:=by
  rcases h2 with h2|⟨z,hz,hzx⟩
  ·subst h2;simp
  ·intro y hy
   obtain ⟨i,hi⟩:=List.getElem?_of_mem hy
   rw [List.getElem?_take] at hi
   split at hi
   ·rename_i hik
    obtain ⟨hi1,rfl⟩:=List.getElem?_eq_some_iff.1 hi
    obtain ⟨hz1,rfl⟩:=List.getElem?_eq_some_iff.1 hz
    by_cases e:i=k - 1
    ·subst e;exact hzx
    ·have:=List.pairwise_iff_getElem.1 h i (k - 1) hi1 hz1 (by omega);omega
   ·cases hi
 have e1:s.takeWhile (fun y=>decide (y≤x))=s.take k:=by
  conv=>lhs;rw [←List.take_append_drop k s]
  rw [List.takeWhile_append_of_pos (fun y hy=>decide_eq_true (hle y hy))]
  cases hd:s.drop k with
  |nil=>simp
  |cons z l=>
   have:=h1 z (by rw [hd];simp)
   rw [List.takeWhile_cons,if_neg (by simp;omega)];simp
 have e2:s.dropWhile (fun y=>decide (y≤x))=s.drop k:=by
  conv=>lhs;rw [←List.take_append_drop k s]
  rw [List.dropWhile_append_of_pos (fun y hy=>decide_eq_true (hle y hy))]
  cases hd:s.drop k with
  |nil=>simp
  |cons z l=>
   have:=h1 z (by rw [hd];simp)
   rw [List.dropWhile_cons,if_neg (by simp;omega)]
 unfold insR;rw [e1,e2]
theorem sortI_snoc {l:List Int} {i:Nat} {x:Int} (h:l[i]? =some x):sortI (l.take (i+1))=insR (sortI (l.take i)) x:=by
 rw [take_snoc h,sortI,List.foldl_append];rfl
theorem foldl_sorted:∀ {l s:List Int},leS s→leS (l.foldl insR s)
 |[],s,h=>h
 |x::l,s,h=>foldl_sorted (l:=l) (insR_sorted h)
theorem foldl_perm:∀ {l s:List Int},(l.foldl insR s).Perm (s++l)
 |[],s=>by simp
 |x::l,s=>by
  rw [List.foldl_cons]
  refine (foldl_perm (l:=l) (s:=insR s x)).trans ?_
  refine (List.Perm.append_right l insR_perm).trans ?_
  exact List.perm_middle.symm
theorem sortI_sorted {l:List Int}:leS (sortI l):=foldl_sorted List.Pairwise.nil
theorem sortI_perm {l:List Int}:(sortI l).Perm l:=by
 have:=foldl_perm (l:=l) (s:=[])
 rw [List.nil_append] at this;exact this
theorem sortI_len {l:List Int}:(sortI l).length=l.length:=sortI_perm.length_eq
theorem sorted_perm_eq : ∀ {a b : List Int}, leS a → leS b → a.Perm b → a = b
  | [], b, _, _, h => h.nil_eq
  | x :: a, b, ha, hb, h => by
    cases b with
    | nil => exact absurd h.length_eq (by simp)
    | cons y b =>
      obtain ⟨a1, a2⟩ := List.pairwise_cons.1 ha
      obtain ⟨b1, b2⟩ := List.pairwise_cons.1 hb
      have hx : x ∈ y :: b := h.subset (by simp)
      have hy : y ∈ x :: a := h.symm.subset (by simp)
      have e : x = y := by
        have h1 : y ≤ x := by rcases List.mem_cons.1 hx with rfl | hx; · exact Int.le_refl _
                              · exact b1 x hx
        have h2 : x ≤ y := by rcases List.mem_cons.1 hy with rfl | hy; · exact Int.le_refl _
                              · exact a1 y hy
        omega
      subst e
      rw [sorted_perm_eq a2 b2 (List.Perm.cons_inv h)]
theorem sortI_insAt {l:List Int} {p:Int} (h:l.Pairwise (·< ·)) (hp:p∉l):sortI (l++[p])=insAt l p:=by
 refine sorted_perm_eq sortI_sorted ?_ (sortI_perm.trans ?_)
 ·exact (insAt_sorted h hp).imp fun h=>Int.le_of_lt h
 ·unfold insAt
  refine List.perm_append_comm.trans ?_
  refine List.Perm.symm (List.perm_middle.trans ?_)
  rw [List.takeWhile_append_dropWhile];rfl
theorem swap_eq {s rest:List Int} {x y:Int} {k:Nat} (hk:0<k) (hks:k≤s.length) (hy:s[k - 1]? =some y):
  ((s.take k++x::(s.drop k++rest)).set k y).set (k - 1) x=s.take (k - 1)++x::(s.drop (k - 1)++rest):=by
 obtain ⟨j,rfl⟩:∃j,k=j+1:=⟨k - 1,by omega⟩
 simp only [Nat.add_sub_cancel] at hy ⊢
 have hj:j<s.length:=by omega
 have e1:s.take (j+1)=s.take j++[y]:=take_snoc hy
 have e2:s.drop j=y::s.drop (j+1):=drop_cons hy
 have hl:(s.take j).length=j:=by simp;omega
 rw [e1,e2,List.append_assoc]
 have g1:(s.take j++([y]++x::(s.drop (j+1)++rest))).set (j+1) y=s.take j++([y]++y::(s.drop (j+1)++rest)):=by
  rw [List.set_append_right _ _ (by omega),hl];simp
 rw [g1,List.set_append_right _ _ (by omega),hl]
 simp
end Go.Rx
namespace Go.Rx
open Go
def syncGo (n:Int) (ps:List Key) (l:List GPut):List Key:=l.foldl (fun ps q=>if 0≤q.fPage∧q.fPage≤n - 1 then ps.set q.fPage.toNat q.fText else ps) ps
def syncD (d:GDisk):GDisk:=⟨syncGo d.fPages.length d.fPages d.fLate,[]⟩
theorem syncGo_len {n:Int}:∀ {l:List GPut} {ps:List Key},(syncGo n ps l).length=ps.length
 |[],ps=>rfl
 |q::l,ps=>by
  show (syncGo n (if 0≤q.fPage∧q.fPage≤n - 1 then ps.set q.fPage.toNat q.fText else ps) l).length=_
  rw [syncGo_len];split
  ·simp
  ·rfl
theorem syncGo_snoc {n:Int} {l:List GPut} {ps:List Key} {q:GPut}:syncGo n ps (l++[q])=if 0≤q.fPage∧q.fPage≤n - 1 then (syncGo n ps l).set q.fPage.toNat q.fText else syncGo n ps l:=by
 simp only [syncGo,List.foldl_append,List.foldl_cons,List.foldl_nil]
theorem snoc_ind {α:Type} {P:List α→Prop} (h0:P []) (h1:∀l a,P l→P (l++[a])) (l:List α):P l:=by
 rw [←List.reverse_reverse l]
 induction l.reverse with
 |nil=>exact h0
 |cons a t ih=>rw [List.reverse_cons];exact h1 _ _ ih
theorem sync_get {n:Nat} {ps:List Key} (hn:ps.length=n) {p:Int} (h0:0≤p) (h1:p≤(n:Int) - 1) (l:List GPut):(syncGo n ps l).getD p.toNat []=(lateText l p).getD (ps.getD p.toNat []):=by
 refine snoc_ind (P:=fun l=>(syncGo n ps l).getD p.toNat []=(lateText l p).getD (ps.getD p.toNat [])) rfl (fun l q ih=>?_) l
 rw [syncGo_snoc,lateText_snoc]
 have hl:p.toNat<(syncGo n ps l).length:=by rw [syncGo_len];omega
 by_cases hq:0≤q.fPage∧q.fPage≤(n:Int) - 1
 ·rw [if_pos hq]
  by_cases e:q.fPage=p
  ·rw [if_pos e,e]
   simp only [List.getD,Option.getD_some]
   rw [List.getElem?_set_self hl];rfl
  ·rw [if_neg e,←ih]
   simp only [List.getD]
   rw [List.getElem?_set_ne (by omega)]
 ·rw [if_neg hq,ih]
  have:¬q.fPage=p:=fun e=>hq (e▸⟨h0,h1⟩)
  rw [if_neg this]
theorem syncD_pages {d:GDisk}:(syncD d).fPages.length=d.fPages.length:=syncGo_len
theorem syncD_read {d:GDisk} (p:Int):readPage (syncD d) p=readPage d p:=by
 unfold readPage
 have e:isPage (syncD d) p↔isPage d p:=by unfold isPage;rw [syncD_pages]
 by_cases h:isPage d p
 ·rw [if_pos h,if_pos (e.2 h)]
  show (lateText [] p).getD _=_
  rw [lateText_nil,Option.getD_none]
  exact sync_get rfl h.1 h.2 d.fLate
 ·rw [if_neg h,if_neg fun h2=>h (e.1 h2)]
theorem syncD_rd {d:GDisk}:rdW (syncD d)=rdW d:=by funext p;unfold rdW;rw [syncD_read]
theorem syncGo_small {n:Int} {ps:List Key} {m:Nat} (h1:∀s∈ps,s.length≤m) {l:List GPut} (h2:∀q∈l,q.fText.length≤m):∀s∈syncGo n ps l,s.length≤m:=by
 induction l generalizing ps with
 |nil=>exact h1
 |cons q l ih=>
  show ∀s∈syncGo n (if 0≤q.fPage∧q.fPage≤n - 1 then ps.set q.fPage.toNat q.fText else ps) l,s.length≤m
  refine ih ?_ fun q hq=>h2 q (by simp [hq])
  intro s hs
  split at hs
  ·rcases List.mem_or_eq_of_mem_set hs with hs|rfl
   ·exact h1 s hs
   ·exact h2 q (by simp)
  ·exact h1 s hs
theorem syncD_ok {d:GDisk} (h:diskOk d):diskOk (syncD d):=by
 obtain ⟨h1,h2,h3,h4,h5⟩:=h
 refine ⟨by rw [syncD_pages];exact h1,by rw [syncD_pages];exact h2,by simp [syncD],syncGo_small h4 fun q hq=>(h5 q hq).2,by simp [syncD]⟩
def dropS (w:GWork) (p:Int):GWork:=if p∈w.fFresh then {w with fFresh:=w.fFresh.filter fun q=> !decide (q=p),fUsable:=sortI (w.fUsable++[p])} else {w with fGone:=w.fGone++[p]}
theorem dropS_eq {ours:Int→Prop} {B:List Int} {w:GWork} {p:Int} (h:WOK ours B w):dropS w p=dropP w p:=by
 unfold dropS dropP
 split
 ·rename_i hf
  rw [sortI_insAt h.usable (h.apart p hf)]
 ·rfl
def workNew (d:GDisk) (m:GMeta) (oldest:Int):GWork:=⟨d,m.fNext,sortI ((m.fFrees.filter fun f=>decide (f.fTx≤oldest)).flatMap (·.fPages)),[],[]⟩
end Go.Rx
namespace Go.Rx
open Go
theorem few_of_range:∀ {n:Nat} {l:List Int},l.Nodup→(∀x∈l,0≤x∧x<n)→l.length≤n
 |0,l,_,h=>by
  cases l with
  |nil=>simp
  |cons x l=>have:=h x (by simp);omega
 |n+1,l,hn,h=>by
  have h1:(l.erase (n:Int)).length≤n:=few_of_range (hn.erase _) fun x hx=>by
   have hx':=(List.Nodup.mem_erase_iff hn).1 hx
   have:=h x hx'.2
   have hne:x≠(n:Int):=hx'.1
   omega
  have h2:=List.length_erase (a:=(n:Int)) (l:=l)
  split at h2<;>omega
theorem WOK.few {ours:Int→Prop} {B:List Int} {w:GWork} (h:WOK ours B w):w.fFresh.length≤40∧w.fUsable.length≤40:=by
 have h1:=h.nextL
 have h2:=h.disk.2.1
 constructor
 ·refine few_of_range h.fresh fun x hx=>?_
  have:=h.small x (.inl hx);omega
 ·refine few_of_range (h.usable.imp fun h=>by omega) fun x hx=>?_
  have:=h.small x (.inr hx);omega
theorem WOK.goneLen {ours:Int→Prop} {B:List Int} {w:GWork} (h:WOK ours B w):w.fGone.length≤B.length:=by
 have:∀ {l m:List Int},l.Nodup→(∀x∈l,x∈m)→l.length≤m.length:=by
  intro l
  induction l with
  |nil=>intro m _ _;simp
  |cons a l ih=>
   intro m hn hm
   obtain ⟨n1,n2⟩:=List.nodup_cons.1 hn
   have ham:=hm a (by simp)
   have h1:=ih (m:=m.erase a) n2 fun x hx=>by
    have hne:x≠a:=fun e=>n1 (by rw [←e];exact hx)
    exact (List.mem_erase_of_ne hne).2 (hm x (by simp [hx]))
   have h2:=List.length_erase_of_mem ham
   have h3:0<m.length:=List.length_pos_of_mem ham
   simp only [List.length_cons];omega
 exact this h.gone h.goneB
theorem WOK.smallW {ours:Int→Prop} {B:List Int} {w:GWork} (h:WOK ours B w) (hB:B.length≤1000):smallW w:=by
 obtain ⟨f1,f2⟩:=h.few
 have f3:=h.goneLen
 have h2:=h.disk.2.1
 have h3:=h.disk.2.2.1
 exact ⟨⟨by omega,by omega⟩,by omega,by omega,by omega⟩
theorem readPage_le {d:GDisk} (h:diskOk d) (p:Int):(readPage d p).length≤240:=by
 obtain ⟨_,_,_,h1,h2⟩:=h
 unfold readPage
 split
 ·cases hl:lateText d.fLate p with
  |some s=>
   unfold lateText at hl
   cases hf:d.fLate.reverse.find? fun q=>decide (q.fPage=p) with
   |none=>rw [hf] at hl;cases hl
   |some q=>
    rw [hf] at hl
    simp only [Option.map_some,Option.some.injEq] at hl
    subst hl
    exact (h2 q (by simpa using List.mem_of_find?_eq_some hf)).2
  |none=>
   simp only [Option.getD_none,List.getD_eq_getElem?_getD]
   cases hg:d.fPages[p.toNat]? with
   |none=>simp
   |some s=>exact h1 s (List.mem_of_getElem? hg)
 ·simp
theorem putS_wok {ours:Int→Prop} {B:List Int}:∀ {ns:List GNode} {w w':GWork} {ks:List (Key×Int)},WOK ours B w→putS w ns=some (w',ks)→WOK ours B w'∧(∀q,live B w q→live B w' q)∧ks.length=ns.length
 |[],w,w',ks,h,he=>by
  simp only [putS,Option.some.injEq,Prod.mk.injEq] at he
  obtain ⟨rfl,rfl⟩:=he
  exact ⟨h,fun _ h=>h,rfl⟩
 |n::ns,w,w',ks,h,he=>by
  rw [putS] at he
  split at he
  ·cases he
  ·rename_i w1 p hp
   split at he
   ·cases he
   ·rename_i w2 ks2 hs
    simp only [Option.some.injEq,Prod.mk.injEq] at he
    obtain ⟨rfl,rfl⟩:=he
    have g:=putN_spec h hp
    obtain ⟨h1,h2,h3⟩:=putS_wok g.ok hs
    exact ⟨h1,fun q hq=>h2 q ((g.now q).2 (.inl hq)),by simp [h3]⟩
def joinP (es:List (Key×Int)) (at_:Nat) (kk:List (Key×Int)) (i:Nat):List (Key×Int):=
 if i≤at_ then es.take i else es.take at_++((kmin (es.getD at_ ([],0)).1 (kk.headD ([],0)).1,(kk.headD ([],0)).2)::kk.drop 1++(es.drop (at_+1)).take (i - (at_+1)))
theorem joinP_end {es:List (Key×Int)} {at_:Nat} {kk:List (Key×Int)} (h:at_<es.length):joinP es at_ kk es.length=joinE es at_ kk:=by
 unfold joinP joinE
 have e:(es.drop (at_+1)).take (es.length - (at_+1))=es.drop (at_+1):=List.take_of_length_le (by rw [List.length_drop];omega)
 rw [if_neg (by omega),e]
 simp [List.append_assoc]
theorem joinP_ne {es:List (Key×Int)} {at_ i:Nat} {kk:List (Key×Int)} {e:Key×Int} (h:es[i]? =some e) (hi:i≠at_):joinP es at_ kk (i+1)=joinP es at_ kk i++[e]:=by
 unfold joinP
 by_cases hlt:i<at_
 ·rw [if_pos (by omega),if_pos (by omega),take_snoc h]
 ·rw [if_neg (by omega),if_neg (by omega)]
  have e1:i+1 - (at_+1)=(i - (at_+1))+1:=by omega
  have e2:(es.drop (at_+1))[i - (at_+1)]? =some e:=by rw [List.getElem?_drop];rw [show at_+1+(i - (at_+1))=i by omega];exact h
  rw [e1,take_snoc e2]
  simp [List.append_assoc]
theorem joinP_at {es:List (Key×Int)} {at_:Nat} {kk:List (Key×Int)}:joinP es at_ kk (at_+1)=joinP es at_ kk at_++((kmin (es.getD at_ ([],0)).1 (kk.headD ([],0)).1,(kk.headD ([],0)).2)::kk.drop 1):=by
 unfold joinP
 rw [if_neg (by omega),if_pos (Nat.le_refl _)]
 simp
theorem joinP_len {es:List (Key×Int)} {at_ i:Nat} {kk:List (Key×Int)} (h:i≤es.length):(joinP es at_ kk i).length≤es.length+kk.length+1:=by
 unfold joinP
 split
 ·simp;omega
 ·simp;omega
end Go.Rx
namespace Go.Rx
open Go
def kidOf (e:Key×Int):GKid:=⟨e.1,e.2⟩
theorem leavesS_put:∀ {bs:List (List GPair)} {w:GWork} {out:List GKid},(∀b∈bs,b≠ [])→leavesS w out bs=(putS w (bs.map leafB)).map fun r=>(r.1,out++r.2.map kidOf)
 |[],w,out,_=>by simp [leavesS,putS]
 |b::bs,w,out,h=>by
  rw [leavesS,List.map_cons,putS]
  cases hp:putN w (leafB b) with
  |none=>rfl
  |some q=>
   obtain ⟨w1,p⟩:=q
   simp only
   rw [leavesS_put fun b hb=>h b (by simp [hb])]
   have hk:key1 b=firstKey (leafB b):=by
    cases b with
    |nil=>exact absurd rfl (h [] (by simp))
    |cons x l=>rfl
   cases putS w1 (bs.map leafB) with
   |none=>rfl
   |some r=>simp [kidOf,hk]
theorem levelS_put:∀ {bs:List (List GKid)} {w:GWork} {out:List GKid},(∀b∈bs,b≠ [])→levelS w out bs=(putS w (bs.map kidB)).map fun r=>(r.1,out++r.2.map kidOf)
 |[],w,out,_=>by simp [levelS,putS]
 |b::bs,w,out,h=>by
  rw [levelS,List.map_cons,putS]
  cases hp:putN w (kidB b) with
  |none=>rfl
  |some q=>
   obtain ⟨w1,p⟩:=q
   simp only
   rw [levelS_put fun b hb=>h b (by simp [hb])]
   have hk:name1 b=firstKey (kidB b):=by
    cases b with
    |nil=>exact absurd rfl (h [] (by simp))
    |cons x l=>rfl
   cases putS w1 (bs.map kidB) with
   |none=>rfl
   |some r=>simp [kidOf,hk]
theorem chunk4_ne {α:Type}:∀(n:Nat) (l:List α),l.length≤n→∀b∈chunk4 l,b≠ []
 |0,l,h,b,hb=>by
  have:l=[]:=List.eq_nil_of_length_eq_zero (by omega)
  rw [this,chunk4_nil] at hb;cases hb
 |n+1,l,h,b,hb=>by
  by_cases hl:l=[]
  ·rw [hl,chunk4_nil] at hb;cases hb
  ·rw [chunk4_cons hl] at hb
   have:0<l.length:=List.length_pos_iff.2 hl
   rcases List.mem_cons.1 hb with rfl|hb
   ·intro e
    have:=congrArg List.length e
    rw [List.length_take,List.length_nil] at this;omega
   ·exact chunk4_ne n (l.drop 4) (by rw [List.length_drop];omega) b hb
theorem chunk4_flat {α:Type}:∀(n:Nat) (l:List α),l.length≤n→(chunk4 l).flatten=l
 |0,l,h=>by
  have:l=[]:=List.eq_nil_of_length_eq_zero (by omega)
  rw [this,chunk4_nil];rfl
 |n+1,l,h=>by
  by_cases hl:l=[]
  ·rw [hl,chunk4_nil];rfl
  ·have:0<l.length:=List.length_pos_iff.2 hl
   rw [chunk4_cons hl,List.flatten_cons,chunk4_flat n (l.drop 4) (by rw [List.length_drop];omega),List.take_append_drop]
theorem chunk4_map {α β:Type} {f:α→β}:∀(n:Nat) (l:List α),l.length≤n→chunk4 (l.map f)=(chunk4 l).map (List.map f)
 |0,l,h=>by
  have:l=[]:=List.eq_nil_of_length_eq_zero (by omega)
  rw [this];simp [chunk4_nil]
 |n+1,l,h=>by
  by_cases hl:l=[]
  ·rw [hl];simp [chunk4_nil]
  ·have:0<l.length:=List.length_pos_iff.2 hl
   rw [chunk4_cons hl,chunk4_cons (by simpa using hl),List.map_cons,←List.map_take,←List.map_drop,chunk4_map n (l.drop 4) (by rw [List.length_drop];omega)]
theorem sub_len {l m:List Int} (hn:l.Nodup) (hm:∀x∈l,x∈m):l.length≤m.length:=by
 induction l generalizing m with
 |nil=>simp
 |cons a l ih=>
  obtain ⟨n1,n2⟩:=List.nodup_cons.1 hn
  have ham:=hm a (by simp)
  have h1:=ih (m:=m.erase a) n2 fun x hx=>by
   have hne:x≠a:=fun e=>n1 (by rw [←e];exact hx)
   exact (List.mem_erase_of_ne hne).2 (hm x (by simp [hx]))
  have h2:=List.length_erase_of_mem ham
  have h3:0<m.length:=List.length_pos_of_mem ham
  simp only [List.length_cons];omega
structure Row (ours:Int→Prop) (B:List Int) (w w':GWork) (h:Nat) (subs:List Sub) (ps:List GPair):Prop where
 ok:WOK ours B w'
 tre:∀s∈subs,Tre (rdW w'.fDisk) h s.page s.fst s.pairs s.pages
 key:∀s∈subs,s.key=s.fst
 hd:∀s∈subs,∃x l,s.pairs=x::l∧x.fKey=s.fst
 pairs:subs.flatMap Sub.pairs=ps
 nodup:(subs.flatMap Sub.pages).Nodup
 fresh:∀q∈subs.flatMap Sub.pages,¬live B w q∧ours q
 now:∀q,live B w' q↔live B w q∨q∈subs.flatMap Sub.pages
 rd:∀q,q∉subs.flatMap Sub.pages→rdW w'.fDisk q=rdW w.fDisk q
 two:∀s∈subs,2≤s.page
theorem row_order {subs:List Sub} (hk:∀s∈subs,s.key=s.fst) (hd:∀s∈subs,∃x l,s.pairs=x::l∧x.fKey=s.fst) (ha:ascP (subs.flatMap Sub.pairs)):subsOk subs:=by
 refine ⟨fun s hs=>by rw [hk s hs];exact kle_refl,?_⟩
 induction subs with
 |nil=>exact List.Pairwise.nil
 |cons s subs ih=>
  rw [List.flatMap_cons] at ha
  obtain ⟨a1,a2,a3⟩:=List.pairwise_append.1 ha
  refine List.pairwise_cons.2 ⟨fun t hts q hq=>?_,ih (fun x hx=>hk x (by simp [hx])) (fun x hx=>hd x (by simp [hx])) a2⟩
  obtain ⟨x,l,hx,hxf⟩:=hd t (by simp [hts])
  rw [hk t (by simp [hts]),←hxf]
  exact a3 q hq x (List.mem_flatMap.2 ⟨t,hts,by rw [hx];simp⟩)
def kidS (s:Sub):GKid:=kidOf (subKP s)
theorem kidB_subs {b:List Sub}:kidB (b.map kidS)=branchOf (b.map subKP):=by
 simp [kidB,branchOf,kidS,kidOf,subKP,Function.comp_def]
theorem puts_row {ours:Int→Prop} {B:List Int} {w0 w w':GWork} {h:Nat} {parts:List Part} {subs:List Sub} {below:List Int} {ps:List GPair} (r:PutsOK ours B w w' h parts subs)
  (hC:parts.flatMap Part.C=below) (hps:parts.flatMap Part.ps=ps) (hl:∀q∈below,live B w q)
  (hfr:∀q∈below,¬live B w0 q∧ours q) (hnow:∀q,live B w q↔live B w0 q∨q∈below) (hrd:∀q,q∉below→rdW w.fDisk q=rdW w0.fDisk q)
  (hhd:∀x∈parts,∃y l,x.ps=y::l∧y.fKey=firstKey x.n):Row ours B w0 w' h subs ps:=by
 have hpg:∀q,q∈subs.flatMap Sub.pages↔q∈subs.map Sub.page∨q∈below:=fun q=>by rw [r.pages,hC]
 refine ⟨r.ok,r.tre,r.key,?_,by rw [List.flatMap_def,r.pairs,←List.flatMap_def,hps],r.nodup,fun q hq=>?_,fun q=>?_,fun q hq=>?_,r.two⟩
 ·have e1:=r.pairs
  have e2:=r.fst
  clear r hpg hC hps
  intro s hs
  obtain ⟨i,hi,rfl⟩:=List.mem_iff_getElem.1 hs
  have hlen:subs.length=parts.length:=by simpa using congrArg List.length e1
  obtain ⟨y,l,h1,h2⟩:=hhd (parts[i]'(by omega)) (List.getElem_mem _)
  have g1:subs[i].pairs=(parts[i]'(by omega)).ps:=by
   have:=congrArg (fun l=>l[i]?) e1
   simpa [List.getElem?_eq_getElem hi,List.getElem?_eq_getElem (show i<parts.length by omega)] using this
  have g2:subs[i].fst=firstKey (parts[i]'(by omega)).n:=by
   have:=congrArg (fun l=>l[i]?) e2
   simpa [List.getElem?_eq_getElem hi,List.getElem?_eq_getElem (show i<parts.length by omega)] using this
  exact ⟨y,l,by rw [g1,h1],by rw [g2,h2]⟩
 ·rw [hpg] at hq
  rcases hq with hq|hq
  ·exact ⟨fun e=>(r.fresh q hq).1 ((hnow q).2 (.inl e)),(r.fresh q hq).2⟩
  ·exact hfr q hq
 ·rw [r.now,hnow,hpg]
  constructor
  ·rintro ((h|h)|h)
   ·exact .inl h
   ·exact .inr (.inr h)
   ·exact .inr (.inl h)
  ·rintro (h|h|h)
   ·exact .inl (.inl h)
   ·exact .inr h
   ·exact .inl (.inr h)
 ·rw [hpg,not_or] at hq
  rw [r.rd q hq.1,hrd q hq.2]
theorem kidOf_map {ks:List (Key×Int)} {subs:List Sub} (h:ks=subs.map subKP):ks.map kidOf=subs.map kidS:=by rw [h,List.map_map];rfl
theorem leaves_row {ours:Int→Prop} {B:List Int} {w w':GWork} {l:List GPair} {k:List GKid} (hw:WOK ours B w) (ha:ascP l) (he:leavesS w [] (chunk4 l)=some (w',k)):∃subs,k=subs.map kidS∧subs.length=(chunk4 l).length∧Row ours B w w' 0 subs l:=by
 have hne:=chunk4_ne l.length l (Nat.le_refl _)
 have hfl:=chunk4_flat l.length l (Nat.le_refl _)
 rw [leavesS_put hne] at he
 cases hs:putS w ((chunk4 l).map leafB) with
 |none=>rw [hs] at he;cases he
 |some r=>
  obtain ⟨w1,ks⟩:=r
  rw [hs] at he
  simp only [Option.map_some,List.nil_append,Option.some.injEq,Prod.mk.injEq] at he
  obtain ⟨rfl,rfl⟩:=he
  have hparts:(chunk4 l).map leafB=((chunk4 l).map fun b=>(⟨leafB b,b,[]⟩:Part)).map Part.n:=by rw [List.map_map];rfl
  rw [hparts] at hs
  have hC:((chunk4 l).map fun b=>(⟨leafB b,b,[]⟩:Part)).flatMap Part.C=[]:=by
   rw [List.flatMap_eq_nil_iff]
   intro x hx
   obtain ⟨b,_,rfl⟩:=List.mem_map.1 hx;rfl
  obtain ⟨subs,hk,r⟩:=putS_parts (h:=0) hw (fun x hx=>by obtain ⟨b,_,rfl⟩:=List.mem_map.1 hx;exact ⟨rfl,pairsOf_leafB.symm,rfl⟩) (by rw [hC];simp) (by rw [hC];simp) hs
  refine ⟨subs,kidOf_map hk,by have:=congrArg List.length r.pairs;simpa using this,puts_row (w0:=w) (below:=[]) r hC ?_ (by simp) (by simp) (by simp) (fun q _=>rfl) (fun x hx=>?_)⟩
  ·rw [List.flatMap_map]
   show (chunk4 l).flatMap id=l
   rw [List.flatMap_id];exact hfl
  ·obtain ⟨b,hb,rfl⟩:=List.mem_map.1 hx
   cases b with
   |nil=>exact absurd rfl (hne [] hb)
   |cons y t=>exact ⟨y,t,rfl,rfl⟩
theorem level_row {ours:Int→Prop} {B:List Int} {w0 w w':GWork} {h:Nat} {subs:List Sub} {ps:List GPair} {k:List GKid} (r:Row ours B w0 w h subs ps) (ha:ascP ps) (he:levelS w [] (chunk4 (subs.map kidS))=some (w',k)):
  ∃subs',k=subs'.map kidS∧subs'.length=(chunk4 subs).length∧Row ours B w0 w' (h+1) subs' ps:=by
 have hne:=chunk4_ne subs.length subs (Nat.le_refl _)
 have hfl:=chunk4_flat subs.length subs (Nat.le_refl _)
 have hfm:∀ {β:Type} (f:Sub→List β),(chunk4 subs).flatMap (fun b=>b.flatMap f)=subs.flatMap f:=fun f=>by
  conv=>rhs;rw [←hfl]
  rw [List.flatten_eq_flatMap,List.flatMap_assoc];rfl
 rw [chunk4_map subs.length subs (Nat.le_refl _)] at he
 rw [levelS_put (by intro b hb;obtain ⟨c,hc,rfl⟩:=List.mem_map.1 hb;intro e;exact hne c hc (by simpa using e))] at he
 rw [List.map_map] at he
 cases hs:putS w ((chunk4 subs).map (kidB∘List.map kidS)) with
 |none=>rw [hs] at he;cases he
 |some r2=>
  obtain ⟨w1,ks⟩:=r2
  rw [hs] at he
  simp only [Option.map_some,List.nil_append,Option.some.injEq,Prod.mk.injEq] at he
  obtain ⟨rfl,rfl⟩:=he
  have hparts:(chunk4 subs).map (kidB∘List.map kidS)=((chunk4 subs).map fun b=>(⟨branchOf (b.map subKP),b.flatMap Sub.pairs,b.flatMap Sub.pages⟩:Part)).map Part.n:=by
   rw [List.map_map];exact List.map_congr_left fun b _=>kidB_subs
  rw [hparts] at hs
  have hsub:∀b∈chunk4 subs,∀s∈b,s∈subs:=fun b hb s hsb=>by rw [←hfl];exact List.mem_flatten.2 ⟨b,hb,hsb⟩
  have hso:=row_order r.key r.hd (by rw [r.pairs];exact ha)
  have hsb:∀b∈chunk4 subs,subsOk b:=fun b hb=>by
   have hsl:b.Sublist subs:=by rw [←hfl];exact List.sublist_flatten_of_mem hb
   exact ⟨fun s hs=>hso.1 s (hsub b hb s hs),hso.2.sublist hsl⟩
  have hC:((chunk4 subs).map fun b=>(⟨branchOf (b.map subKP),b.flatMap Sub.pairs,b.flatMap Sub.pages⟩:Part)).flatMap Part.C=subs.flatMap Sub.pages:=by
   rw [List.flatMap_map];exact hfm Sub.pages
  have hP:((chunk4 subs).map fun b=>(⟨branchOf (b.map subKP),b.flatMap Sub.pairs,b.flatMap Sub.pages⟩:Part)).flatMap Part.ps=ps:=by
   rw [List.flatMap_map,←r.pairs];exact hfm Sub.pairs
  obtain ⟨subs',hk,r'⟩:=putS_parts (h:=h+1) r.ok (fun x hx=>by
    obtain ⟨b,hb,rfl⟩:=List.mem_map.1 hx
    exact cand_branch (fun s hs=>r.tre s (hsub b hb s hs)) (hsb b hb)) (by rw [hC];exact r.nodup) (by rw [hC];exact fun q hq=>(r.now q).2 (.inr hq)) hs
  refine ⟨subs',kidOf_map hk,by have:=congrArg List.length r'.pairs;simpa using this,puts_row (w0:=w0) r' hC hP (fun q hq=>(r.now q).2 (.inr hq)) r.fresh r.now r.rd (fun x hx=>?_)⟩
  obtain ⟨b,hb,rfl⟩:=List.mem_map.1 hx
  cases b with
  |nil=>exact absurd rfl (hne [] hb)
  |cons s t=>
   have hs':=hsub (s::t) hb s (by simp)
   obtain ⟨x,l,h1,h2⟩:=r.hd s hs'
   refine ⟨x,l++t.flatMap Sub.pairs,by simp [h1],?_⟩
   rw [h2,←r.key s hs'];rfl
theorem levels_row {ours:Int→Prop} {B:List Int} {ps:List GPair} (ha:ascP ps) {w0:GWork}:∀ {f h m:Nat} {w w':GWork} {subs:List Sub} {k':List GKid},Row ours B w0 w h subs ps→subs.length≤4 ^ m→h+m<8→subs.length≤f+1→
  levelsS f w (subs.map kidS)=some (w',k')→∃subs' h',k'=subs'.map kidS∧subs'.length≤1∧(subs≠ []→subs'≠ [])∧h'<8∧Row ours B w0 w' h' subs' ps
 |0,h,m,w,w',subs,k',r,hm,hh,hf,he=>by
  simp only [levelsS,Option.some.injEq,Prod.mk.injEq] at he
  obtain ⟨rfl,rfl⟩:=he
  exact ⟨subs,h,rfl,by omega,fun h=>h,by omega,r⟩
 |f+1,h,m,w,w',subs,k',r,hm,hh,hf,he=>by
  rw [levelsS] at he
  split at he
  ·rename_i h1
   rw [List.length_map] at h1
   split at he
   ·cases he
   ·rename_i w1 k1 hl
    obtain ⟨subs1,rfl,g1,g2⟩:=level_row r ha hl
    have hcl:=chunk4_len subs.length subs (Nat.le_refl _)
    cases m with
    |zero=>simp at hm;omega
    |succ m=>
     rw [Nat.pow_succ] at hm
     have hne1:subs1≠ []:=fun e=>by
      rw [e,chunk4_cons (fun e=>by rw [e] at h1;simp at h1)] at g1;simp at g1
     obtain ⟨subs2,h2,e1,e2,e3,e4,e5⟩:=levels_row ha (f:=f) (m:=m) g2 (by omega) (by omega) (by omega) he
     exact ⟨subs2,h2,e1,e2,fun _=>e3 hne1,e4,e5⟩
  ·rename_i h1
   rw [List.length_map] at h1
   simp only [Option.some.injEq,Prod.mk.injEq] at he
   obtain ⟨rfl,rfl⟩:=he
   exact ⟨subs,h,rfl,by omega,fun h=>h,by omega,r⟩
theorem build_spec {ours:Int→Prop} {B:List Int} {w w':GWork} {l:List GPair} {root:Int} (hw:WOK ours B w) (he:buildS w l=some (w',root)):
  ascP l∧WOK ours B w'∧∃pg,TreeAt (rdW w'.fDisk) root l pg∧(∀q,live B w' q↔live B w q∨q∈pg)∧(∀q∈pg,¬live B w q∧ours q)∧∀q,q∉pg→rdW w'.fDisk q=rdW w.fDisk q:=by
 unfold buildS at he
 split at he
 ·rename_i hasc
  have ha:=ascP_keys.2 hasc
  refine ⟨ha,?_⟩
  split at he
  ·cases he
  ·rename_i w1 k1 h1
   obtain ⟨subs,rfl,hlen,r⟩:=leaves_row hw ha h1
   split at he
   ·cases he
   ·rename_i w2 k2 h2
    simp only [Option.some.injEq,Prod.mk.injEq] at he
    obtain ⟨rfl,rfl⟩:=he
    have hsl:subs.length≤40:=by
     have hpn:(subs.map Sub.page).Nodup:=by
      have h3:=r.nodup
      have h4:=r.tre
      clear r hlen h1 h2
      induction subs with
      |nil=>simp
      |cons s subs ih=>
       rw [List.flatMap_cons] at h3
       obtain ⟨a1,a2,a3⟩:=List.nodup_append.1 h3
       rw [List.map_cons,List.nodup_cons]
       refine ⟨fun e=>?_,ih a2 fun s hs=>h4 s (by simp [hs])⟩
       obtain ⟨t,ht,e⟩:=List.mem_map.1 e
       exact a3 s.page (h4 s (by simp)).mem t.page (List.mem_flatMap.2 ⟨t,ht,(h4 t (by simp [ht])).mem⟩) e.symm
     have:=sub_len hpn (m:=w1.fFresh) fun q hq=>by
      obtain ⟨s,hs,rfl⟩:=List.mem_map.1 hq
      have hmem:s.page∈subs.flatMap Sub.pages:=List.mem_flatMap.2 ⟨s,hs,(r.tre s hs).mem⟩
      rcases (r.now s.page).2 (.inr hmem) with h|⟨h,_⟩
      ·exact h
      ·exact absurd (r.fresh _ hmem).2 (r.ok.baseN _ h)
     have h40:=r.ok.few.1
     rw [List.length_map] at this;omega
    have hcl:=chunk4_len l.length l (Nat.le_refl _)
    obtain ⟨subs2,h',rfl,e2,e3,e4,r2⟩:=levels_row ha (m:=3) r (by omega) (by omega) (by omega) h2
    refine ⟨r2.ok,subs2.flatMap Sub.pages,?_,r2.now,r2.fresh,r2.rd⟩
    cases subs2 with
    |nil=>
     have hp:=r2.pairs
     exact .inl ⟨rfl,hp.symm,rfl⟩
    |cons s t=>
     have:t=[]:=List.eq_nil_of_length_eq_zero (by simp at e2;simpa using e2)
     subst this
     have hp:=r2.pairs
     have hnd:=r2.nodup
     simp only [List.flatMap_cons,List.flatMap_nil,List.append_nil] at hp hnd ⊢
     have h2:=r2.two s (by simp)
     refine .inr ⟨?_,hnd,h',s.fst,e4,by rw [←hp];exact r2.tre s (by simp)⟩
     show s.page≠0
     omega
 ·cases he
end Go.Rx
namespace Go.Rx
open Go
def delP {α:Type} (l:List α) (at_ i:Nat):List α:=if i≤at_ then l.take i else l.take at_++(l.drop (at_+1)).take (i - (at_+1))
theorem delP_ne {α:Type} {l:List α} {at_ i:Nat} {e:α} (h:l[i]? =some e) (hi:i≠at_):delP l at_ (i+1)=delP l at_ i++[e]:=by
 unfold delP
 by_cases hlt:i<at_
 ·rw [if_pos (by omega),if_pos (by omega),take_snoc h]
 ·rw [if_neg (by omega),if_neg (by omega)]
  have e1:i+1 - (at_+1)=(i - (at_+1))+1:=by omega
  have e2:(l.drop (at_+1))[i - (at_+1)]? =some e:=by rw [List.getElem?_drop];rw [show at_+1+(i - (at_+1))=i by omega];exact h
  rw [e1,take_snoc e2,List.append_assoc]
theorem delP_at {α:Type} {l:List α} {at_:Nat}:delP l at_ (at_+1)=delP l at_ at_:=by
 unfold delP
 rw [if_neg (by omega),if_pos (Nat.le_refl _)]
 simp
theorem delP_end {α:Type} {l:List α} {at_:Nat} (h:at_<l.length):delP l at_ l.length=l.eraseIdx at_:=by
 unfold delP
 have e:(l.drop (at_+1)).take (l.length - (at_+1))=l.drop (at_+1):=List.take_of_length_le (by rw [List.length_drop];omega)
 rw [if_neg (by omega),e,List.eraseIdx_eq_take_drop_succ]
theorem delP_len {α:Type} {l:List α} {at_ i:Nat}:(delP l at_ i).length≤l.length:=by
 unfold delP
 split
 ·simp;omega
 ·simp;omega
theorem delP_zero {α:Type} {l:List α} {at_:Nat}:delP l at_ 0=[]:=by simp [delP]
def finR (w:GWork) (n:GNode) (page:Int):Bool×GWork×Int:=
 if n.fKeys=[] then (true,dropP w page,0) else match putN w n with
  |none=>(false,w,0)
  |some (w',p)=>(true,dropP w' page,p)
theorem finR_eq {w:GWork} {n:GNode} {page:Int}:match finU w n page with
  |some r=>finR w n page=(true,r.1,r.2)
  |none=>(finR w n page).1=false:=by
 unfold finU finR
 by_cases h:n.fKeys=[]
 ·rw [if_pos h,if_pos h]
 ·rw [if_neg h,if_neg h]
  cases putN w n with
  |none=>rfl
  |some q=>rfl
theorem map_erase {α β:Type} {f:α→β}:∀ {l:List α} {i:Nat},(l.eraseIdx i).map f=(l.map f).eraseIdx i
 |[],i=>by simp
 |a::l,0=>by simp
 |a::l,i+1=>by simp [map_erase]
theorem zip_fst {α β:Type} {l:List α} {m:List β} (h:m.length=l.length):(l.zip m).map (·.1)=l:=List.map_fst_zip (by omega)
theorem zip_snd {α β:Type} {l:List α} {m:List β} (h:m.length=l.length):(l.zip m).map (·.2)=m:=List.map_snd_zip (by omega)
theorem set_same {α:Type} {l:List α} {i:Nat} {x:α} (h:l[i]? =some x):l.set i x=l:=by
 obtain ⟨h1,rfl⟩:=List.getElem?_eq_some_iff.1 h
 simp
end Go.Rx
namespace Go.Rx
open Go
structure TopAt (ours:Int→Prop) (B:List Int) (h:Nat) (w:GWork) (top:Int):Prop where
 two:2≤top
 ok:WOK ours B w
 tree:∃fk ps pg,Tre (rdW w.fDisk) h top fk ps pg∧pg.Nodup∧∀q,live B w q↔q∈pg
theorem TopAt.node {ours:Int→Prop} {B:List Int} {h:Nat} {w:GWork} {top:Int} (t:TopAt ours B h w top):∃n,rdW w.fDisk top=some n∧(n.fLeaf=true∨(n.fLeaf=false∧(1<n.fKids.length∨(n.fKids.length=1∧∃h',h=h'+1∧TopAt ours B h' (dropP w top) (n.fKids.headD 0))))):=by
 obtain ⟨fk,ps,pg,ht,hn,hl⟩:=t.tree
 cases h with
 |zero=>
  obtain ⟨n,h1,hleaf,_⟩:=ht
  exact ⟨n,h1,.inl hleaf⟩
 |succ h=>
  obtain ⟨n,ks,h1,hleaf,h3,h4,h5,h6,h7,h8',h9⟩:=ht
  have hok:=rdW_ok _ _ h1
  refine ⟨n,h1,.inr ⟨hleaf,?_⟩⟩
  by_cases hc:1<n.fKids.length
  ·exact .inl hc
  ·obtain ⟨k,rfl⟩:∃k,ks=[k]:=by
    have h10:=hok.1
    rw [h4,List.length_map] at h10
    rw [h5,List.length_map] at hc
    match ks,h10,hc with
    |[k],_,_=>exact ⟨k,rfl⟩
    |_::_::_,_,h=>simp at h
   have hkid:n.fKids.headD 0=k.page:=by rw [h5];rfl
   simp only [List.flatMap_cons,List.flatMap_nil,List.append_nil] at h8' h9
   rw [h9] at hn hl
   obtain ⟨n1,n2⟩:=List.nodup_cons.1 hn
   obtain ⟨d1,d2⟩:=dropP_spec t.ok ((hl top).2 (by simp))
   have h5':=hok.2.2.2.2
   rw [if_neg (by rw [hleaf];simp)] at h5'
   have hk2:=(h5'.2.2.1 k.page (by rw [h5];simp)).1
   refine .inr ⟨by rw [h5];rfl,h,rfl,⟨by rw [hkid];exact hk2,d1,k.fst,k.pairs,k.pages,by rw [dropP_disk,hkid];exact h6 k (by simp),n2,fun q=>?_⟩⟩
   rw [d2,hl,List.mem_cons]
   constructor
   ·rintro ⟨h|h,h2⟩
    ·exact absurd h h2
    ·exact h
   ·exact fun h=>⟨.inr h,fun e=>n1 (e▸h)⟩
theorem topU_stop {f:Nat} {w:GWork} {top:Int} {n:GNode} (h0:top≠0) (hr:rdW w.fDisk top=some n) (h:n.fLeaf=true∨1<n.fKids.length):topU (f+1) w top=(w,top):=by
 rw [topU,if_neg h0,hr];simp only;rw [if_pos h]
theorem topU_go {f:Nat} {w:GWork} {top:Int} {n:GNode} (h0:top≠0) (hr:rdW w.fDisk top=some n) (h:¬(n.fLeaf=true∨1<n.fKids.length)):topU (f+1) w top=topU f (dropP w top) (n.fKids.headD 0):=by
 rw [topU,if_neg h0,hr];simp only;rw [if_neg h]
end Go.Rx
