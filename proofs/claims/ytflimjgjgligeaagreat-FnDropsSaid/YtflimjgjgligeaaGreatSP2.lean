/-
  Part P2: lemmas on an evaluator over plain data of the model's code, plain laws on lists and numbers, or contracts of functions of the program; each lemma names its conditions.
-/
import Derived.Test.YtflimjgjgligeaaGreatSP1

set_option linter.unusedSimpArgs false
set_option linter.unusedVariables false
namespace Go.Rx
open Go
abbrev Key:=List UInt8
def klt (a b:Key):Prop:=Zax a b=true
def kle (a b:Key):Prop:=Zax b a=false
instance {a b:Key}:Decidable (klt a b):=by unfold klt;infer_instance
instance {a b:Key}:Decidable (kle a b):=by unfold kle;infer_instance
theorem Zpa {a:Key}:¬klt a a:=by unfold klt;rw [ZhD];simp
theorem Zdk {a b c:Key} (h:klt a b) (h2:klt b c):klt a c:=Zfc h h2
theorem Zfr {a b:Key}:¬klt a b↔kle b a:=by unfold klt kle;simp
theorem Zur {a b:Key}:¬kle a b↔klt b a:=by unfold klt kle;simp
theorem Zej {a:Key}:kle a a:=ZhD
theorem ZfZ {a b:Key} (h:klt a b):kle a b:=by
 apply Zfr.1;intro h2;exact Zpa (Zdk h h2)
theorem ZjV {a b:Key} (h:kle a b):klt a b∨a=b:=by
 by_cases h2:klt a b
 ·exact .inl h2
 ·exact .inr (Zoo (by simpa [klt] using h2) h)
theorem Zsc {a b c:Key} (h:kle a b) (h2:klt b c):klt a c:=by
 rcases ZjV h with h|rfl
 ·exact Zdk h h2
 ·exact h2
theorem ZbB {a b c:Key} (h:klt a b) (h2:kle b c):klt a c:=by
 rcases ZjV h2 with h2|rfl
 ·exact Zdk h h2
 ·exact h
theorem Zdl {a b c:Key} (h:kle a b) (h2:kle b c):kle a c:=by
 rcases ZjV h with h|rfl
 ·exact ZfZ (ZbB h h2)
 ·exact h2
theorem Zw1 {a b:Key} (h:kle a b) (h2:kle b a):a=b:=Zoo h2 h
def ascP (l:List ZR):Prop:=l.Pairwise fun p q=>klt p.Zi q.Zi
theorem ZhF {l:List ZR}:ascP l↔ascK (l.map (·.Zi)):=by
 unfold ascP ascK klt;rw [List.pairwise_map]
def mput (l:List ZR) (k v:Key):List ZR:=(l.filter fun p=>decide (klt p.Zi k))++[⟨k,v⟩]++l.filter fun p=>decide (klt k p.Zi)
def ZeI (l:List ZR) (k:Key):List ZR:=l.filter fun p=> !decide (p.Zi=k)
theorem Zf5 {α:Type} {p:α→Bool} {l:List α} (h:∀x∈l,p x=true):l.filter p=l:=List.filter_eq_self.2 h
theorem ZgN {α:Type} {p:α→Bool} {l:List α} (h:∀x∈l,p x=false):l.filter p=[]:=List.filter_eq_nil_iff.2 fun x hx=>by rw [h x hx];simp
theorem ZwU {a b c:List ZR} {k v:Key} (ha:∀p∈a,klt p.Zi k) (hc:∀p∈c,klt k p.Zi):mput (a++b++c) k v=a++mput b k v++c:=by
 unfold mput;rw [List.filter_append,List.filter_append,List.filter_append,List.filter_append,
  Zf5 (l:=a) (fun x hx=>decide_eq_true (ha x hx)),
  ZgN (l:=c) (p:=fun p=>decide (klt p.Zi k)) (fun x hx=>decide_eq_false fun h=>Zpa (Zdk h (hc x hx))),
  ZgN (l:=a) (p:=fun p=>decide (klt k p.Zi)) (fun x hx=>decide_eq_false fun h=>Zpa (Zdk h (ha x hx))),
  Zf5 (l:=c) (fun x hx=>decide_eq_true (hc x hx))]
 simp [List.append_assoc]
theorem ZwV {l:List ZR} {k v:Key} {q:ZR} (h:q∈mput l k v):q∈l∨q=⟨k,v⟩:=by
 simp only [mput,List.mem_append,List.mem_filter,List.mem_singleton] at h;rcases h with (h|h)|h
 ·exact .inl h.1
 ·exact .inr h
 ·exact .inl h.1
theorem Znl {a b c:List ZR} {k:Key} (ha:∀p∈a,klt p.Zi k) (hc:∀p∈c,klt k p.Zi):ZeI (a++b++c) k=a++ZeI b k++c:=by
 unfold ZeI;have h1:∀x∈a,(!decide (x.Zi=k))=true:=fun x hx=>by simpa using Zrp (ha x hx)
 have h2:∀x∈c,(!decide (x.Zi=k))=true:=fun x hx=>by simpa using (Zrp (hc x hx)).symm
 rw [List.filter_append,List.filter_append,Zf5 h1,Zf5 h2]
theorem Zv0 {l:List ZR} {k v:Key} (h:ascP l):ascP (mput l k v):=by
 unfold ascP mput at*;rw [List.pairwise_append,List.pairwise_append];refine ⟨⟨h.filter _,by simp,?_⟩,h.filter _,?_⟩
 ·intro a ha b hb;simp only [List.mem_filter,decide_eq_true_eq] at ha;simp only [List.mem_singleton] at hb;subst hb;exact ha.2
 ·intro a ha b hb;simp only [List.mem_append,List.mem_filter,decide_eq_true_eq,List.mem_singleton] at ha hb;rcases ha with ha|rfl
  ·exact Zdk ha.2 hb.2
  ·exact hb.2
abbrev RD:=Int→Option Z1
structure Sub where
 key:Key
 page:Int
 fst:Key
 pairs:List ZR
 pages:List Int
def Zah (n:Z1):Key:=n.Zj.headD []
def ZdS (ks:List Sub):Prop:=(∀k∈ks,kle k.key k.fst)∧ks.Pairwise fun a b=>∀q∈a.pairs,klt q.Zi b.key
def Tre (rd:RD):Nat→Int→Key→List ZR→List Int→Prop
 |0,p,f,ps,pg=>∃n,rd p=some n∧n.Zn=true∧f=Zah n∧ps=Zaq n∧pg=[p]
 |h+1,p,f,ps,pg=>∃n ks,rd p=some n∧n.Zn=false∧f=Zah n∧n.Zj=ks.map Sub.key∧n.Zk=ks.map Sub.page∧
   (∀k∈ks,Tre rd h k.page k.fst k.pairs k.pages)∧ZdS ks∧ps=ks.flatMap Sub.pairs∧pg=p::ks.flatMap Sub.pages
def rdOk (rd:RD):Prop:=∀p n,rd p=some n→ZaA n
def rdW (d:ZT):RD:=fun p=>ZaH (ZU d p)
theorem Zcx {d:ZT}:rdOk (rdW d):=fun p n h=>(Zb5.1 h).1
theorem Tre.frame {rd rd':RD}:∀ {h:Nat} {p:Int} {f:Key} {ps:List ZR} {pg:List Int},(∀q∈pg,rd' q=rd q)→Tre rd h p f ps pg→Tre rd' h p f ps pg
 |0,p,f,ps,pg,hf,⟨n,h1,h2,h3,h4,h5⟩=>⟨n,by rw [hf p (by rw [h5];simp),h1],h2,h3,h4,h5⟩
 |h+1,p,f,ps,pg,hf,⟨n,ks,h1,h2,h3,h4,h5,h6,h7,h8,h9⟩=>by
  refine ⟨n,ks,by rw [hf p (by rw [h9];simp),h1],h2,h3,h4,h5,fun k hk=>?_,h7,h8,h9⟩;refine Tre.frame (fun q hq=>hf q ?_) (h6 k hk);rw [h9];exact List.mem_cons_of_mem _ (List.mem_flatMap.2 ⟨k,hk,hq⟩)
theorem Tre.mem {rd:RD}:∀ {h:Nat} {p:Int} {f:Key} {ps:List ZR} {pg:List Int},Tre rd h p f ps pg→p∈pg
 |0,p,f,ps,pg,⟨n,h1,h2,h3,h4,h5⟩=>by rw [h5];simp
 |h+1,p,f,ps,pg,⟨n,ks,h1,h2,h3,h4,h5,h6,h7,h8,h9⟩=>by rw [h9];simp
theorem Zb6 {n:Z1} (hn:ZaA n) (hl:n.Zn=true):(Zaq n).map (·.Zi)=n.Zj:=by
 have h:=hn.2.2.2.2;rw [if_pos hl] at h;simp only [Zaq,List.map_map,Function.comp_def,Zfq];exact List.map_fst_zip (by omega)
theorem Ze2 {n:Z1} (hn:ZaA n) (hl:n.Zn=true):(Zaq n).length=n.Zj.length:=by
 rw [←Zb6 hn hl,List.length_map]
theorem ZfE {n:Z1} (hn:ZaA n):∃l,n.Zj=Zah n::l:=by
 have:=hn.1;unfold Zah;cases h:n.Zj with
 |nil=>rw [h] at this;simp at this
 |cons x l=>exact ⟨l,rfl⟩
theorem Zjb {x:Key} {l:List Key} (h:ascK (x::l)):∀y∈x::l,kle x y:=fun y hy=>by
 rcases List.mem_cons.1 hy with rfl|hy
 ·exact Zej
 ·exact ZfZ ((List.pairwise_cons.1 h).1 y hy)
theorem Tre.low {rd:RD} (ho:rdOk rd):∀ {h:Nat} {p:Int} {f:Key} {ps:List ZR} {pg:List Int},Tre rd h p f ps pg→∀q∈ps,kle f q.Zi
 |0,p,f,ps,pg,⟨n,h1,h2,h3,h4,h5⟩,q,hq=>by
  have hn:=ho _ _ h1;obtain ⟨l,hl⟩:=ZfE hn;have ha:=hn.2.2.1;rw [hl] at ha;rw [h3];refine Zjb ha _ ?_;rw [←hl,←Zb6 hn h2];rw [h4] at hq;exact List.mem_map.2 ⟨q,hq,rfl⟩
 |h+1,p,f,ps,pg,⟨n,ks,h1,h2,h3,h4,h5,h6,h7,h8,h9⟩,q,hq=>by
  have hn:=ho _ _ h1;obtain ⟨l,hl⟩:=ZfE hn;have ha:=hn.2.2.1;rw [h8] at hq;obtain ⟨k,hk,hq⟩:=List.mem_flatMap.1 hq;have e1:=Tre.low ho (h6 k hk) q hq;have e2:=h7.1 k hk;rw [hl] at ha;have e3:kle (Zah n) k.key:=Zjb ha _ (by rw [←hl,h4];exact List.mem_map.2 ⟨k,hk,rfl⟩);rw [h3];exact Zdl e3 (Zdl e2 e1)
theorem Tre.nonempty {rd:RD} (ho:rdOk rd):∀ {h:Nat} {p:Int} {f:Key} {ps:List ZR} {pg:List Int},Tre rd h p f ps pg→ps≠ []
 |0,p,f,ps,pg,⟨n,h1,h2,h3,h4,h5⟩=>by
  have hn:=ho _ _ h1;have:=Ze2 hn h2;have h1:=hn.1;rw [h4];intro e;rw [e] at this;simp at this;omega
 |h+1,p,f,ps,pg,⟨n,ks,h1,h2,h3,h4,h5,h6,h7,h8,h9⟩=>by
  have hn:=ho _ _ h1;have hk:=hn.1;rw [h4,List.length_map] at hk;cases ks with
  |nil=>simp at hk
  |cons k ks=>
   rw [h8,List.flatMap_cons];have:=Tre.nonempty ho (h6 k (by simp));intro e;rw [List.append_eq_nil_iff] at e;exact this e.1
end Go.Rx
namespace Go.Rx
open Go
def ZaZ (s:Sub):Key×Int:=(s.key,s.page)
theorem ZiN {n:Z1} {ks:List Sub} (h4:n.Zj=ks.map Sub.key) (h5:n.Zk=ks.map Sub.page):n.Zj.zip n.Zk=ks.map ZaZ:=by
 rw [h4,h5,List.zip_map'];rfl
theorem Zkm {α:Type} {p:α→Bool} {l:List α} (h:∀x∈l,p x=false):l.any p=false:=by
 rw [List.any_eq_false];intro x hx;rw [h x hx];simp
theorem ZnD {rec:Int→Tr→Tr} {c:Int} {first:Nat}:∀ {ks:List Sub} {t:Tr},
  (∀k∈ks,∀t:Tr,t.bad=false→(∀q∈k.pages,q∉t.pages)→∃m,0<m∧rec k.page t=⟨t.pages++k.pages,t.pairs++k.pairs,t.deeps++List.replicate m c,t.order,false⟩)→
  t.bad=false→(ks.flatMap Sub.pages).Nodup→(∀q∈ks.flatMap Sub.pages,q∉t.pages)→ks.Pairwise (fun a b=>∀q∈a.pairs,klt q.Zi b.key)→(∀k∈ks,∀q∈k.pairs,kle k.key q.Zi)→
  (∀q∈t.pairs.drop first,∀k∈ks,klt q.Zi k.key)→first≤t.pairs.length→
  ∃m,(ks≠ []→0<m)∧Zpb rec first (ks.map ZaZ) t=⟨t.pages++ks.flatMap Sub.pages,t.pairs++ks.flatMap Sub.pairs,t.deeps++List.replicate m c,t.order,false⟩
 |[],t,hr,hb,hn,hd,hp,hl,hf,hle=>⟨0,fun h=>absurd rfl h,by simp [Zpb,←hb]⟩
 |k::ks,t,hr,hb,hn,hd,hp,hl,hf,hle=>by
  obtain ⟨m,hm,e⟩:=hr k (by simp) t hb (fun q hq=>hd q (by simp [hq]));simp only [List.map_cons,ZaZ,Zpb];rw [e];simp only [Bool.false_eq_true,if_false,Tr.ord];rw [List.drop_left,List.take_left];have k1:Zq0 k.pairs k.key=false:=Zkm fun q hq=>by
   have:=hl k (by simp) q hq;exact this
  have k2:ZuW (t.pairs.drop first) k.key=false:=Zkm fun q hq=>by
   have:=hf q hq k (by simp);unfold klt at this;rw [this];rfl
  rw [k1,k2];simp only [Bool.not_false,Bool.and_true];obtain ⟨p1,p2⟩:=List.pairwise_cons.1 hp;simp only [List.flatMap_cons] at hn hd;obtain ⟨n1,n2,n3⟩:=List.nodup_append.1 hn;obtain ⟨m2,_,e2⟩:=ZnD (rec:=rec) (c:=c) (first:=first) (ks:=ks) (t:=⟨t.pages++k.pages,t.pairs++k.pairs,t.deeps++List.replicate m c,t.order,false⟩) (fun k hk=>hr k (by simp [hk])) rfl n2
   (fun q hq=>by
    simp only [List.mem_append,not_or];exact ⟨hd q (by simp only [List.mem_append];exact .inr hq),fun h=>n3 q h q hq rfl⟩) p2 (fun k hk=>hl k (by simp [hk]))
   (fun q hq k' hk'=>by
    simp only at hq;rw [List.drop_append_of_le_length hle] at hq;rcases List.mem_append.1 hq with hq|hq
    ·exact hf q hq k' (by simp [hk'])
    ·exact p1 k' hk' q hq) (by simp only [List.length_append];omega)
  refine ⟨m+m2,fun _=>by omega,?_⟩;rw [e2];simp only [List.flatMap_cons,List.append_assoc,List.replicate_append_replicate]
theorem Zrk {d:ZT}:∀ {h f:Nat} {p:Int} {fk:Key} {ps:List ZR} {pg:List Int} {t:Tr},h<f→Tre (rdW d) h p fk ps pg→pg.Nodup→t.bad=false→(∀q∈pg,q∉t.pages)→
  ∃m,0<m∧Zmm d f p t=⟨t.pages++pg,t.pairs++ps,t.deeps++List.replicate m (9 - (f:Int)+h),t.order,false⟩
 |0,f+1,p,fk,ps,pg,t,hf,⟨n,h1,h2,h3,h4,h5⟩,hn,hb,hd=>by
  refine ⟨1,by omega,?_⟩;have h1':ZaH (ZU d p)=some n:=h1;rw [Zmm,h1'];simp only;rw [if_neg (by rw [hb];simp;exact hd p (by rw [h5];simp)),if_pos h2,h4,h5];simp only [List.replicate,hb];congr 2;simp;omega
 |h+1,f+1,p,fk,ps,pg,t,hf,⟨n,ks,h1,h2,h3,h4,h5,h6,h7,h8,h9⟩,hn,hb,hd=>by
  have h1':ZaH (ZU d p)=some n:=h1;rw [Zmm,h1'];simp only;rw [if_neg (by rw [hb];simp;exact hd p (by rw [h9];simp)),if_neg (by rw [h2];simp),ZiN h4 h5];rw [h9] at hn hd;obtain ⟨n1,n2⟩:=List.nodup_cons.1 hn;have hne:ks≠ []:=by
   have:=(Zcx _ _ h1).1;rw [h4,List.length_map] at this;intro e;rw [e] at this;simp at this
  have hnk:∀k∈ks,k.pages.Nodup:=fun k hk=>by
   clear h1 h1' h4 h5 h6 h7 h8 h9 hn hd n1 hne;induction ks with
   |nil=>cases hk
   |cons x xs ih=>
    rw [List.flatMap_cons] at n2;obtain ⟨a1,a2,_⟩:=List.nodup_append.1 n2;rcases List.mem_cons.1 hk with rfl|hk
    ·exact a1
    ·exact ih a2 hk
  obtain ⟨m,hm,e⟩:=ZnD (rec:=Zmm d f) (c:=9 - ((f+1:Nat):Int)+((h+1:Nat):Int)) (first:=t.pairs.length) (ks:=ks) (t:=⟨t.pages++[p],t.pairs,t.deeps,t.order,t.bad⟩)
   (fun k hk t hb hd=>by
    obtain ⟨m,hm,e⟩:=Zrk (d:=d) (f:=f) (t:=t) (by omega) (h6 k hk) (hnk k hk) hb hd;refine ⟨m,hm,?_⟩;rw [e];congr 3;omega) hb n2
   (fun q hq=>by
    simp only [List.mem_append,not_or,List.mem_singleton];exact ⟨hd q (by simp [hq]),fun e=>n1 (by rw [←e];exact hq)⟩) h7.2
   (fun k hk q hq=>Zdl (h7.1 k hk) (Tre.low Zcx (h6 k hk) q hq)) (by simp) (Nat.le_refl _)
  refine ⟨m,hm hne,?_⟩;rw [e,h8,h9];simp only [List.append_assoc,List.singleton_append]
theorem ZnA {rec:Int→List UInt8→List UInt8→Bool→Al→Al} {c:Int} {low high:Key} {has:Bool}:∀ {ks:List Sub} {a:Al},
  (∀k∈ks,∀lo hi hs (a:Al),a.bad=false→(∀q∈k.pages,q∉a.pages)→(∀q∈k.pairs,kle lo q.Zi)→(hs=true→∀q∈k.pairs,klt q.Zi hi)→
   ∃m,0<m∧rec k.page lo hi hs a=⟨a.pairs++k.pairs,a.pages++k.pages,a.deeps++List.replicate m c,false,a.loose⟩)→
  a.bad=false→(ks.flatMap Sub.pages).Nodup→(∀q∈ks.flatMap Sub.pages,q∉a.pages)→ks.Pairwise (fun a b=>∀q∈a.pairs,klt q.Zi b.key)→(∀k∈ks,∀q∈k.pairs,kle k.key q.Zi)→
  (∀k∈ks,∀q∈k.pairs,kle low q.Zi)→(has=true→∀k∈ks,∀q∈k.pairs,klt q.Zi high)→
  ∃m,(ks≠ []→0<m)∧Zge rec low high has (ks.map ZaZ) a=⟨a.pairs++ks.flatMap Sub.pairs,a.pages++ks.flatMap Sub.pages,a.deeps++List.replicate m c,false,a.loose⟩
 |[],a,hr,hb,hn,hd,hp,hl,hlo,hhi=>⟨0,fun h=>absurd rfl h,by simp [Zge,←hb]⟩
 |k::ks,a,hr,hb,hn,hd,hp,hl,hlo,hhi=>by
  obtain ⟨p1,p2⟩:=List.pairwise_cons.1 hp;obtain ⟨m,hm,e⟩:=hr k (by simp) (lowS low k.key) (Zd4 high has (ks.map ZaZ)) (Zd0 high has (ks.map ZaZ)) a hb (fun q hq=>hd q (by simp [hq]))
   (fun q hq=>by
    unfold lowS;split
    ·exact hl k (by simp) q hq
    ·exact hlo k (by simp) q hq)
   (fun hm q hq=>by
    unfold Zd0 at hm;unfold Zd4;split
    ·rename_i hc;cases ks with
     |nil=>simp [capS] at hc
     |cons k2 ks=>exact p1 k2 (by simp) q hq
    ·rename_i hc;rw [if_neg hc] at hm;exact hhi hm k (by simp) q hq)
  simp only [List.map_cons,ZaZ,Zge];rw [e];simp only [List.flatMap_cons] at hn hd;obtain ⟨n1,n2,n3⟩:=List.nodup_append.1 hn;obtain ⟨m2,_,e2⟩:=ZnA (rec:=rec) (c:=c) (low:=low) (high:=high) (has:=has) (ks:=ks) (a:=⟨a.pairs++k.pairs,a.pages++k.pages,a.deeps++List.replicate m c,false,a.loose⟩) (fun k hk=>hr k (by simp [hk])) rfl n2
   (fun q hq=>by
    simp only [List.mem_append,not_or];exact ⟨hd q (by simp only [List.mem_append];exact .inr hq),fun h=>n3 q h q hq rfl⟩) p2 (fun k hk=>hl k (by simp [hk])) (fun k hk=>hlo k (by simp [hk])) (fun h k hk=>hhi h k (by simp [hk]))
  refine ⟨m+m2,fun _=>by omega,?_⟩;rw [e2];simp only [List.flatMap_cons,List.append_assoc,List.replicate_append_replicate]
theorem Zqq {d:ZT}:∀ {h f:Nat} {p:Int} {fk:Key} {ps:List ZR} {pg:List Int} {a:Al} {low high:Key} {has:Bool},h<f→Tre (rdW d) h p fk ps pg→pg.Nodup→a.bad=false→(∀q∈pg,q∉a.pages)→
  (∀q∈ps,kle low q.Zi)→(has=true→∀q∈ps,klt q.Zi high)→
  ∃m,0<m∧Zcr d f p low high has a=⟨a.pairs++ps,a.pages++pg,a.deeps++List.replicate m (8 - (f:Int)+h),false,a.loose⟩
 |0,f+1,p,fk,ps,pg,a,low,high,has,hf,⟨n,h1,h2,h3,h4,h5⟩,hn,hb,hd,hlo,hhi=>by
  refine ⟨1,by omega,?_⟩;have h1':ZaH (ZU d p)=some n:=h1;rw [Zcr,h1'];simp only;rw [if_neg (by rw [hb];simp;exact hd p (by rw [h5];simp)),if_pos h2,Zi0,h4,h5];simp only [List.replicate,hb];have hloose:((n.Zj.zip n.ZJ).any fun e=>Zax e.1 low||(has&& !Zax e.1 high))=false:=Zkm fun e he=>by
   have hm:Zfq e∈ps:=by rw [h4,Zaq];exact List.mem_map.2 ⟨e,he,rfl⟩
   have g1:Zax e.1 low=false:=hlo _ hm;rw [g1,Bool.false_or];cases has with
   |false=>rfl
   |true=>
    have g2:Zax e.1 high=true:=hhi rfl _ hm;rw [g2];rfl
  rw [hloose,Bool.or_false];congr 2;simp;omega
 |h+1,f+1,p,fk,ps,pg,a,low,high,has,hf,⟨n,ks,h1,h2,h3,h4,h5,h6,h7,h8,h9⟩,hn,hb,hd,hlo,hhi=>by
  have h1':ZaH (ZU d p)=some n:=h1;rw [Zcr,h1'];simp only;rw [if_neg (by rw [hb];simp;exact hd p (by rw [h9];simp)),if_neg (by rw [h2];simp),ZiN h4 h5];rw [h9] at hn hd;obtain ⟨n1,n2⟩:=List.nodup_cons.1 hn;have hne:ks≠ []:=by
   have:=(Zcx _ _ h1).1;rw [h4,List.length_map] at this;intro e;rw [e] at this;simp at this
  have hnk:∀k∈ks,k.pages.Nodup:=fun k hk=>by
   clear h1 h1' h4 h5 h6 h7 h8 h9 hn hd n1 hne;induction ks with
   |nil=>cases hk
   |cons x xs ih=>
    rw [List.flatMap_cons] at n2;obtain ⟨a1,a2,_⟩:=List.nodup_append.1 n2;rcases List.mem_cons.1 hk with rfl|hk
    ·exact a1
    ·exact ih a2 hk
  have hmem:∀k∈ks,∀q∈k.pairs,q∈ps:=fun k hk q hq=>by rw [h8];exact List.mem_flatMap.2 ⟨k,hk,hq⟩
  obtain ⟨m,hm,e⟩:=ZnA (rec:=Zcr d f) (c:=8 - ((f+1:Nat):Int)+((h+1:Nat):Int)) (low:=low) (high:=high) (has:=has) (ks:=ks) (a:=⟨a.pairs,a.pages++[p],a.deeps,a.bad,a.loose⟩)
   (fun k hk lo hi hs a hb hd g1 g2=>by
    obtain ⟨m,hm,e⟩:=Zqq (d:=d) (f:=f) (a:=a) (low:=lo) (high:=hi) (has:=hs) (by omega) (h6 k hk) (hnk k hk) hb hd g1 g2;refine ⟨m,hm,?_⟩;rw [e];congr 3;omega) hb n2
   (fun q hq=>by
    simp only [List.mem_append,not_or,List.mem_singleton];exact ⟨hd q (by simp [hq]),fun e=>n1 (by rw [←e];exact hq)⟩) h7.2
   (fun k hk q hq=>Zdl (h7.1 k hk) (Tre.low Zcx (h6 k hk) q hq)) (fun k hk q hq=>hlo q (hmem k hk q hq)) (fun h k hk q hq=>hhi h q (hmem k hk q hq))
  refine ⟨m,hm hne,?_⟩;rw [e,h8,h9];simp only [List.append_assoc,List.singleton_append]
def Zdp (rd:RD) (root:Int) (ps:List ZR) (pg:List Int):Prop:=
 (root=0∧ps=[]∧pg=[])∨(root≠0∧pg.Nodup∧∃h f,h<8∧Tre rd h root f ps pg)
theorem Zdp.frame {rd rd':RD} {root:Int} {ps:List ZR} {pg:List Int} (hf:∀q∈pg,rd' q=rd q):Zdp rd root ps pg→Zdp rd' root ps pg
 | .inl h=> .inl h
 | .inr ⟨h1,h2,h,f,h3,h4⟩=> .inr ⟨h1,h2,h,f,h3,h4.frame hf⟩
theorem Zdp.nodup {rd:RD} {root:Int} {ps:List ZR} {pg:List Int}:Zdp rd root ps pg→pg.Nodup
 | .inl ⟨_,_,h⟩=>by rw [h];exact List.nodup_nil
 | .inr ⟨_,h,_⟩=>h
theorem Zjf {d:ZT} {root:Int} {ps:List ZR} {pg:List Int} (h:Zdp (rdW d) root ps pg):∃m c,ZkR d root=⟨pg,ps,List.replicate m c,true,false⟩:=by
 unfold ZkR;rcases h with ⟨h1,h2,h3⟩|⟨h1,h2,h,f,h3,h4⟩
 ·rw [if_pos h1,h2,h3];exact ⟨0,0,rfl⟩
 ·rw [if_neg h1];obtain ⟨m,_,e⟩:=Zrk (f:=8) (t:=Tr.new) h3 h4 h2 rfl (by simp [Tr.new]);exact ⟨m,9 - ((8:Nat):Int)+(h:Int),by rw [e];simp [Tr.new]⟩
theorem ZiY {d:ZT} {root:Int} {ps:List ZR} {pg:List Int} (h:Zdp (rdW d) root ps pg):∃m c,Zc1 d root=⟨ps,pg,List.replicate m c,false,false⟩:=by
 unfold Zc1;rcases h with ⟨h1,h2,h3⟩|⟨h1,h2,h,f,h3,h4⟩
 ·rw [if_pos h1,h2,h3];exact ⟨0,0,rfl⟩
 ·rw [if_neg h1];obtain ⟨m,_,e⟩:=Zqq (f:=8) (a:=Al.new) (low:=[]) (high:=[]) (has:=false) h3 h4 h2 rfl (by simp [Al.new]) (fun q _=>Zfr.1 (by unfold klt;cases q.Zi<;>simp [Zax,Op.bytesLess])) (fun h=>by cases h);exact ⟨m,8 - ((8:Nat):Int)+(h:Int),by rw [e];simp [Al.new]⟩
theorem ZgV {d:ZT} {root:Int} {ps:List ZR} {pg:List Int} (h:Zdp (rdW d) root ps pg):Zeo d root=some ps:=by
 obtain ⟨m,c,e⟩:=Zjf h;unfold Zeo;rw [e];rfl
end Go.Rx
namespace Go.Rx
open Go
structure WOK (ours:Int→Prop) (B:List Int) (w:ZS):Prop where
 disk:Za5 w.Zc
 ours_iff:∀q,ours q↔q∈w.Zf∨q∈w.ZH∨w.Zs≤q
 fresh:w.Zf.Nodup
 usable:w.ZH.Pairwise (·< ·)
 apart:∀q∈w.Zf,q∉w.ZH
 small:∀q,q∈w.Zf∨q∈w.ZH→2≤q∧q<w.Zs
 gone:w.Zg.Nodup
 goneB:∀q∈w.Zg,q∈B
 base:B.Nodup
 baseN:∀q∈B,¬ours q
 next2:2≤w.Zs
 nextL:w.Zs≤w.Zc.Zv.length
 late:∀x∈w.Zc.Zm,ours x.Zu
def live (B:List Int) (w:ZS) (q:Int):Prop:=q∈w.Zf∨(q∈B∧q∉w.Zg)
theorem Zda {d d':ZT} {p:Int} {t:List UInt8} (h:Zak d p t=some d') (q:Int):ZU d' q=if q=p then t else ZU d q:=by
 unfold Zak at h;split at h
 ·rename_i hc;obtain rfl:=Option.some.inj h;unfold ZU;have e:Za9 ({d with Zm:=d.Zm++[⟨p,t⟩]}:ZT) q↔Za9 d q:=Iff.rfl;by_cases hq:Za9 d q
  ·rw [if_pos (e.2 hq),if_pos hq,Ze6];simp only;by_cases hp:q=p
   ·rw [if_pos hp.symm,if_pos hp];rfl
   ·rw [if_neg (fun e=>hp e.symm),if_neg hp]
  ·rw [if_neg (fun h=>hq (e.1 h)),if_neg hq];by_cases hp:q=p
   ·subst hp;exact absurd hc.2.1 hq
   ·rw [if_neg hp]
 ·cases h
theorem Zcv {d d':ZT} {p:Int} {t:List UInt8} (h:Zak d p t=some d'):Za5 d'∧d'.Zv=d.Zv∧d'.Zm=d.Zm++[⟨p,t⟩]∧Za9 d p∧d.Zm.length<200:=by
 unfold Zak at h;split at h
 ·rename_i hc;obtain rfl:=Option.some.inj h;obtain ⟨⟨h1,h2,h3,h4,h5⟩,h6,h7,h8⟩:=hc;refine ⟨⟨h1,h2,?_,h4,fun q hq=>?_⟩,rfl,rfl,h6,h8⟩
  ·simp only [List.length_append,List.length_cons,List.length_nil];omega
  ·simp only [List.mem_append,List.mem_singleton] at hq;rcases hq with hq|rfl
   ·exact h5 q hq
   ·exact ⟨h6,h7⟩
 ·cases h
structure PutOK (ours:Int→Prop) (B:List Int) (w w':ZS) (n:Z1) (p:Int):Prop where
 ok:WOK ours B w'
 our:ours p
 dead:¬live B w p
 now:∀q,live B w' q↔live B w q∨q=p
 rd:rdW w'.Zc p=some n
 rdo:∀q,q≠p→rdW w'.Zc q=rdW w.Zc q
 node:ZaA n
 low:2≤p
 high:p≤39
theorem Zr6 {ours:Int→Prop} {d d':ZT} {p:Int} {t:List UInt8} (hd:Zak d p t=some d') (hl:∀x∈d.Zm,ours x.Zu) (hp:ours p):∀x∈d'.Zm,ours x.Zu:=by
 unfold Zak at hd;split at hd
 ·obtain rfl:=Option.some.inj hd;intro x hx;simp only [List.mem_append,List.mem_singleton] at hx;rcases hx with hx|rfl
  ·exact hl x hx
  ·exact hp
 ·cases hd
theorem Zxa {ours:Int→Prop} {B:List Int} {w:ZS} (h:WOK ours B w) (h0:(Zcu w).2≠0):(Zcu w).1.Zc=w.Zc∧WOK ours B (Zcu w).1∧ours (Zcu w).2∧¬live B w (Zcu w).2∧
  (∀q,live B (Zcu w).1 q↔live B w q∨q=(Zcu w).2)∧2≤(Zcu w).2:=by
 have hd:=h.disk;have hn:=h.nextL;unfold Zcu at h0 ⊢;cases hu:w.ZH with
 |cons u us=>
  simp only;have hus:=h.usable;rw [hu] at hus;obtain ⟨u1,u2⟩:=List.pairwise_cons.1 hus;have hmem:u∈w.ZH:=by rw [hu];simp
  have hof:u∉w.Zf:=fun e=>h.apart u e hmem
  have hsm:=h.small u (.inr hmem);have hour:ours u:=(h.ours_iff u).2 (.inr (.inl hmem));refine ⟨trivial,⟨hd,fun q=>?_,?_,u2,fun q hq=>?_,fun q hq=>?_,h.gone,h.goneB,h.base,h.baseN,h.next2,h.nextL,h.late⟩,hour,?_,fun q=>?_,hsm.1⟩
  ·rw [h.ours_iff q,hu];simp only [List.mem_append,List.mem_cons,List.mem_singleton,List.not_mem_nil,or_false];constructor
   ·rintro (h|(h|h)|h)
    ·exact .inl (.inl h)
    ·exact .inl (.inr h)
    ·exact .inr (.inl h)
    ·exact .inr (.inr h)
   ·rintro ((h|h)|h|h)
    ·exact .inl h
    ·exact .inr (.inl (.inl h))
    ·exact .inr (.inl (.inr h))
    ·exact .inr (.inr h)
  ·rw [List.nodup_append];refine ⟨h.fresh,by simp,fun a ha b hb=>?_⟩;simp only [List.mem_singleton] at hb;subst hb;intro e;exact hof (e▸ha)
  ·simp only [List.mem_append,List.mem_singleton] at hq;rcases hq with hq|rfl
   ·intro e;exact h.apart q hq (by rw [hu];exact List.mem_cons_of_mem _ e)
   ·intro e;have:=u1 q e;omega
  ·simp only [List.mem_append,List.mem_singleton] at hq;rcases hq with (hq|rfl)|hq
   ·exact h.small q (.inl hq)
   ·exact hsm
   ·exact h.small q (.inr (by rw [hu];exact List.mem_cons_of_mem _ hq))
  ·rintro (e|⟨e,_⟩)
   ·exact hof e
   ·exact h.baseN u e hour
  ·simp only [live,List.mem_append,List.mem_singleton];constructor
   ·rintro ((h|h)|h)
    ·exact .inl (.inl h)
    ·exact .inr h
    ·exact .inl (.inr h)
   ·rintro ((h|h)|h)
    ·exact .inl (.inl h)
    ·exact .inr h
    ·exact .inl (.inr h)
 |nil=>
  rw [hu] at h0;simp only at h0 ⊢;by_cases hc:(w.Zc.Zv.length:Int)≤w.Zs
  ·rw [if_pos hc] at h0;exact absurd rfl h0
  ·rw [if_neg hc];have h40:=hd.2.1;have hw:IntKind.i64.wrap (w.Zs+1)=w.Zs+1:=Zad (by have:=h.next2;omega) (by omega);have hour:ours w.Zs:=(h.ours_iff _).2 (.inr (.inr (Int.le_refl _)));have hof:w.Zs∉w.Zf:=fun e=>by have:=(h.small _ (.inl e)).2;omega
   simp only [hw];refine ⟨trivial,⟨hd,fun q=>?_,?_,List.Pairwise.nil,fun q hq=>?_,fun q hq=>?_,h.gone,h.goneB,h.base,h.baseN,?_,?_,h.late⟩,hour,?_,fun q=>?_,h.next2⟩
   ·rw [h.ours_iff q,hu];simp only [List.mem_append,List.mem_singleton,List.not_mem_nil,false_or];constructor
    ·rintro (h|h)
     ·exact .inl (.inl h)
     ·by_cases e:q=w.Zs
      ·exact .inl (.inr e)
      ·exact .inr (by omega)
    ·rintro ((h|h)|h)
     ·exact .inl h
     ·exact .inr (by omega)
     ·exact .inr (by omega)
   ·rw [List.nodup_append];refine ⟨h.fresh,by simp,fun a ha b hb=>?_⟩;simp only [List.mem_singleton] at hb;subst hb;intro e;exact hof (e▸ha)
   ·simp
   ·simp only [List.mem_append,List.mem_singleton] at hq;have h2:=h.next2;rcases hq with (hq|rfl)|hq
    ·have:=h.small q (.inl hq);exact ⟨this.1,by simp only;omega⟩
    ·exact ⟨h2,by simp only;omega⟩
    ·cases hq
   ·have:=h.next2;simp only;omega
   ·simp only;omega
   ·rintro (e|⟨e,_⟩)
    ·exact hof e
    ·exact h.baseN _ e hour
   ·simp only [live,List.mem_append,List.mem_singleton];constructor
    ·rintro ((h|h)|h)
     ·exact .inl (.inl h)
     ·exact .inr h
     ·exact .inl (.inr h)
    ·rintro ((h|h)|h)
     ·exact .inl (.inl h)
     ·exact .inr h
     ·exact .inl (.inr h)
theorem ZeD {ours:Int→Prop} {B:List Int} {w w':ZS} {n:Z1} {p:Int} (h:WOK ours B w) (hp:putN w n=some (w',p)):PutOK ours B w w' n p:=by
 unfold putN at hp;split at hp
 ·rename_i hn;split at hp
  ·cases hp
  ·rename_i h0;obtain ⟨g1,g2,g3,g4,g5,g6⟩:=Zxa h h0;split at hp
   ·cases hp
   ·rename_i d hd;simp only [Option.some.injEq,Prod.mk.injEq] at hp;obtain ⟨rfl,rfl⟩:=hp;obtain ⟨o1,o2,o3,o4,o5⟩:=Zcv hd;rw [g1] at o2 o3 o4 o5;refine ⟨⟨o1,g2.ours_iff,g2.fresh,g2.usable,g2.apart,g2.small,g2.gone,g2.goneB,g2.base,g2.baseN,g2.next2,by have:=g2.nextL;rw [g1] at this;rw [o2];exact this,Zr6 hd (by rw [g1];exact h.late) g3⟩,g3,g4,g5,?_,fun q hq=>?_,hn,g6,?_⟩
    ·show ZaH (ZU d _)=_;rw [Zda hd,if_pos rfl];exact Zb5.2 ⟨hn,rfl⟩
    ·show ZaH (ZU d _)=_;rw [Zda hd,if_neg hq,g1];rfl
    ·have:=o4.2;have:=h.disk.2.1;omega
 ·cases hp
def Zpf (l:List Int) (p:Int):List Int:=(l.takeWhile fun q=>decide (q<p))++p::l.dropWhile fun q=>decide (q<p)
def ZbP (w:ZS) (p:Int):ZS:=if p∈w.Zf then {w with Zf:=w.Zf.filter fun q=> !decide (q=p),ZH:=Zpf w.ZH p} else {w with Zg:=w.Zg++[p]}
theorem ZjX {l:List Int} {p q:Int}:q∈Zpf l p↔q=p∨q∈l:=by
 unfold Zpf;have h:q∈l↔q∈(l.takeWhile fun q=>decide (q<p))∨q∈l.dropWhile fun q=>decide (q<p):=by
  rw [←List.mem_append,List.takeWhile_append_dropWhile]
 rw [h];simp only [List.mem_append,List.mem_cons];constructor
 ·rintro (h|h|h)
  ·exact .inr (.inl h)
  ·exact .inl h
  ·exact .inr (.inr h)
 ·rintro (h|h|h)
  ·exact .inr (.inl h)
  ·exact .inl h
  ·exact .inr (.inr h)
theorem ZlY {l:List Int} {p q:Int} (h:q∈l.takeWhile fun q=>decide (q<p)):q<p:=by
 have:=List.all_eq_true.1 (List.all_takeWhile (p:=fun q=>decide (q<p)) (l:=l)) q h;simpa using this
theorem ZiA {p:Int}:∀ {l:List Int},l.Pairwise (·< ·)→∀q∈l.dropWhile (fun q=>decide (q<p)),p≤q
 |[],_,q,hq=>by cases hq
 |x::l,hl,q,hq=>by
  obtain ⟨h1,h2⟩:=List.pairwise_cons.1 hl;rw [List.dropWhile_cons] at hq;by_cases hx:x<p
  ·rw [if_pos (decide_eq_true hx)] at hq;exact ZiA h2 q hq
  ·rw [if_neg (by simpa using hx)] at hq;rcases List.mem_cons.1 hq with rfl|hq
   ·omega
   ·have:=h1 q hq;omega
theorem Ziu {l:List Int} {p:Int} (h:l.Pairwise (·< ·)) (hp:p∉l):(Zpf l p).Pairwise (·< ·):=by
 unfold Zpf;have hs:(l.takeWhile (fun q=>decide (q<p))++l.dropWhile (fun q=>decide (q<p))).Pairwise (·< ·):=by rw [List.takeWhile_append_dropWhile];exact h
 obtain ⟨h1,h2,h3⟩:=List.pairwise_append.1 hs;rw [List.pairwise_append,List.pairwise_cons];refine ⟨h1,⟨fun q hq=>?_,h2⟩,fun a ha b hb=>?_⟩
 ·have g:=ZiA h q hq;have hm:q∈l:=by
   have:=List.mem_append_right (l.takeWhile fun q=>decide (q<p)) hq
   rwa [List.takeWhile_append_dropWhile] at this
  have:q≠p:=fun e=>hp (e▸hm)
  omega
 ·rcases List.mem_cons.1 hb with rfl|hb
  ·exact ZlY ha
  ·exact h3 a ha b hb
theorem ZbI {w:ZS} {p:Int}:(ZbP w p).Zc=w.Zc:=by unfold ZbP;split<;>rfl
theorem ZeP {ours:Int→Prop} {B:List Int} {w:ZS} {p:Int} (h:WOK ours B w) (hp:live B w p):WOK ours B (ZbP w p)∧∀q,live B (ZbP w p) q↔live B w q∧q≠p:=by
 unfold ZbP;by_cases hf:p∈w.Zf
 ·rw [if_pos hf];have hpu:=h.apart p hf;have hsm:=h.small p (.inl hf);have hmf:∀q,q∈(w.Zf.filter fun q=> !decide (q=p))↔q∈w.Zf∧q≠p:=fun q=>by simp [List.mem_filter]
  have hour:ours p:=(h.ours_iff p).2 (.inl hf);refine ⟨⟨h.disk,fun q=>?_,h.fresh.filter _,Ziu h.usable hpu,fun q hq=>?_,fun q hq=>?_,h.gone,h.goneB,h.base,h.baseN,h.next2,h.nextL,h.late⟩,fun q=>?_⟩
  ·rw [h.ours_iff q];simp only [hmf,ZjX];constructor
   ·rintro (h|h|h)
    ·by_cases e:q=p
     ·exact .inr (.inl (.inl e))
     ·exact .inl ⟨h,e⟩
    ·exact .inr (.inl (.inr h))
    ·exact .inr (.inr h)
   ·rintro (h|(h|h)|h)
    ·exact .inl h.1
    ·exact .inl (h▸hf)
    ·exact .inr (.inl h)
    ·exact .inr (.inr h)
  ·rw [hmf] at hq;simp only [ZjX,not_or];exact ⟨hq.2,h.apart q hq.1⟩
  ·simp only [hmf,ZjX] at hq;rcases hq with hq|rfl|hq
   ·exact h.small q (.inl hq.1)
   ·exact hsm
   ·exact h.small q (.inr hq)
  ·simp only [live,hmf];constructor
   ·rintro (h1|⟨h1,h2⟩)
    ·exact ⟨.inl h1.1,h1.2⟩
    ·exact ⟨.inr ⟨h1,h2⟩,fun e=>h.baseN q h1 (by rw [e];exact hour)⟩
   ·rintro ⟨h1|h1,h2⟩
    ·exact .inl ⟨h1,h2⟩
    ·exact .inr h1
 ·rw [if_neg hf];rcases hp with hp|⟨hp,hg⟩
  ·exact absurd hp hf
  ·refine ⟨⟨h.disk,h.ours_iff,h.fresh,h.usable,h.apart,h.small,?_,fun q hq=>?_,h.base,h.baseN,h.next2,h.nextL,h.late⟩,fun q=>?_⟩
   ·rw [List.nodup_append];refine ⟨h.gone,by simp,fun a ha b hb=>?_⟩;simp only [List.mem_singleton] at hb;subst hb;intro e;exact hg (e▸ha)
   ·simp only [List.mem_append,List.mem_singleton] at hq;rcases hq with hq|rfl
    ·exact h.goneB q hq
    ·exact hp
   ·simp only [live,List.mem_append,List.mem_singleton,not_or];constructor
    ·rintro (h1|⟨h1,h2,h3⟩)
     ·exact ⟨.inl h1,fun e=>hf (e▸h1)⟩
     ·exact ⟨.inr ⟨h1,h2⟩,h3⟩
    ·rintro ⟨h1|⟨h1,h2⟩,h3⟩
     ·exact .inl h1
     ·exact .inr ⟨h1,h2,h3⟩
end Go.Rx
namespace Go.Rx
open Go
def Zer (key:Key):Nat→Int→List Key→Int
 |_,out,[]=>out
 |i,out,k::l=>Zer key (i+1) (if kle k key then (i:Int) else out) l
def Zbe (l:List Key) (key:Key):Int:=Zer key 0 (-1) l
theorem Zhb {key:Key}:∀ {l:List Key} {i:Nat} {out:Int},(Zer key i out l=out∧∀k∈l,klt key k)∨
  ∃pre k post,l=pre++k::post∧Zer key i out l=((i+pre.length:Nat):Int)∧kle k key∧∀k'∈post,klt key k'
 |[],i,out=> .inl ⟨rfl,by simp⟩
 |k::l,i,out=>by
  rw [Zer];rcases Zhb (key:=key) (l:=l) (i:=i+1) (out:=if kle k key then (i:Int) else out) with ⟨h1,h2⟩|⟨pre,k',post,h1,h2,h3,h4⟩
  ·rw [h1];by_cases hk:kle k key
   ·rw [if_pos hk];exact .inr ⟨[],k,l,rfl,rfl,hk,h2⟩
   ·rw [if_neg hk];refine .inl ⟨rfl,fun k' hk'=>?_⟩;rcases List.mem_cons.1 hk' with rfl|hk'
    ·exact Zur.1 hk
    ·exact h2 k' hk'
  ·refine .inr ⟨k::pre,k',post,by rw [h1];rfl,?_,h3,h4⟩;rw [h2];simp;omega
theorem Zdg (l:List Key) (key:Key):(Zbe l key= -1∧∀k∈l,klt key k)∨
  ∃pre k post,l=pre++k::post∧Zbe l key=(pre.length:Int)∧kle k key∧∀k'∈post,klt key k':=by
 rcases Zhb (key:=key) (l:=l) (i:=0) (out:= -1) with h|⟨pre,k,post,h1,h2,h3,h4⟩
 ·exact .inl h
 ·exact .inr ⟨pre,k,post,h1,by rw [Zbe,h2];simp,h3,h4⟩
def Cand (rd:RD):Nat→Z1→List ZR→List Int→Prop
 |0,n,ps,C=>n.Zn=true∧ps=Zaq n∧C=[]
 |h+1,n,ps,C=>n.Zn=false∧∃ks,n.Zj=ks.map Sub.key∧n.Zk=ks.map Sub.page∧(∀k∈ks,Tre rd h k.page k.fst k.pairs k.pages)∧ZdS ks∧ps=ks.flatMap Sub.pairs∧C=ks.flatMap Sub.pages
theorem ZhK {rd:RD} {h:Nat} {p:Int} {f:Key} {ps:List ZR} {pg:List Int}:Tre rd h p f ps pg↔∃n C,rd p=some n∧f=Zah n∧Cand rd h n ps C∧pg=p::C:=by
 cases h with
 |zero=>
  constructor
  ·rintro ⟨n,h1,h2,h3,h4,h5⟩;exact ⟨n,[],h1,h3,⟨h2,h4,rfl⟩,h5⟩
  ·rintro ⟨n,C,h1,h2,⟨h3,h4,h5⟩,h6⟩;exact ⟨n,h1,h3,h2,h4,by rw [h6,h5]⟩
 |succ h=>
  constructor
  ·rintro ⟨n,ks,h1,h2,h3,h4,h5,h6,h7,h8,h9⟩;exact ⟨n,_,h1,h3,⟨h2,ks,h4,h5,h6,h7,h8,rfl⟩,h9⟩
  ·rintro ⟨n,C,h1,h2,⟨h3,ks,h4,h5,h6,h7,h8,h9⟩,h10⟩;exact ⟨n,ks,h1,h3,h2,h4,h5,h6,h7,h8,by rw [h10,h9]⟩
theorem Cand.frame {rd rd':RD} {h:Nat} {n:Z1} {ps:List ZR} {C:List Int} (hf:∀q∈C,rd' q=rd q) (hc:Cand rd h n ps C):Cand rd' h n ps C:=by
 cases h with
 |zero=>exact hc
 |succ h=>
  obtain ⟨h1,ks,h2,h3,h4,h5,h6,h7⟩:=hc;refine ⟨h1,ks,h2,h3,fun k hk=>(h4 k hk).frame fun q hq=>hf q ?_,h5,h6,h7⟩;rw [h7];exact List.mem_flatMap.2 ⟨k,hk,hq⟩
def putS:ZS→List Z1→Option (ZS×List (Key×Int))
 |w,[]=>some (w,[])
 |w,n::ns=>match putN w n with
  |none=>none
  |some (w1,p)=>match putS w1 ns with
   |none=>none
   |some (w2,ks)=>some (w2,(Zah n,p)::ks)
structure Part where
 n:Z1
 ps:List ZR
 C:List Int
structure Zyj (ours:Int→Prop) (B:List Int) (w w':ZS) (h:Nat) (parts:List Part) (subs:List Sub):Prop where
 ok:WOK ours B w'
 pairs:subs.map Sub.pairs=parts.map Part.ps
 fst:subs.map Sub.fst=parts.map fun x=>Zah x.n
 key:∀s∈subs,s.key=s.fst
 tre:∀s∈subs,Tre (rdW w'.Zc) h s.page s.fst s.pairs s.pages
 new:(subs.map Sub.page).Nodup
 fresh:∀q∈subs.map Sub.page,¬live B w q∧ours q
 now:∀q,live B w' q↔live B w q∨q∈subs.map Sub.page
 rd:∀q,q∉subs.map Sub.page→rdW w'.Zc q=rdW w.Zc q
 pages:∀q,q∈subs.flatMap Sub.pages↔q∈subs.map Sub.page∨q∈parts.flatMap Part.C
 nodup:(subs.flatMap Sub.pages).Nodup
 two:∀s∈subs,2≤s.page
theorem ZfU {ours:Int→Prop} {B:List Int} {h:Nat}:∀ {parts:List Part} {w w':ZS} {ks:List (Key×Int)},WOK ours B w→
  (∀x∈parts,Cand (rdW w.Zc) h x.n x.ps x.C)→(parts.flatMap Part.C).Nodup→(∀q∈parts.flatMap Part.C,live B w q)→
  putS w (parts.map Part.n)=some (w',ks)→∃subs:List Sub,ks=subs.map ZaZ∧Zyj ours B w w' h parts subs
 |[],w,w',ks,hw,hc,hn,hl,he=>by
  simp only [List.map_nil,putS,Option.some.injEq,Prod.mk.injEq] at he;obtain ⟨rfl,rfl⟩:=he;exact ⟨[],rfl,⟨hw,rfl,rfl,by simp,by simp,by simp,by simp,by simp,by simp,by simp,by simp,by simp⟩⟩
 |x::parts,w,w',ks,hw,hc,hn,hl,he=>by
  rw [List.map_cons,putS] at he;split at he
  ·cases he
  ·rename_i w1 p hp;split at he
   ·cases he
   ·rename_i w2 ks2 hs;simp only [Option.some.injEq,Prod.mk.injEq] at he;obtain ⟨rfl,rfl⟩:=he;have g:=ZeD hw hp;simp only [List.flatMap_cons] at hn hl;obtain ⟨n1,n2,n3⟩:=List.nodup_append.1 hn;have hne:∀q,live B w q→q≠p:=fun q hq e=>g.dead (e▸hq)
    obtain ⟨subs,rfl,r⟩:=ZfU (ours:=ours) (h:=h) (parts:=parts) g.ok
     (fun y hy=>(hc y (by simp [hy])).frame fun q hq=>g.rdo q (hne q (hl q (List.mem_append.2 (.inr (List.mem_flatMap.2 ⟨y,hy,hq⟩))))))
     n2 (fun q hq=>(g.now q).2 (.inl (hl q (List.mem_append.2 (.inr hq))))) hs
    have hpn:p∉subs.map Sub.page:=fun e=>(r.fresh p e).1 ((g.now p).2 (.inr rfl))
    have hln:∀q,live B w q→q∉subs.map Sub.page:=fun q hq e=>(r.fresh q e).1 ((g.now q).2 (.inl hq))
    refine ⟨⟨Zah x.n,p,Zah x.n,x.ps,p::x.C⟩::subs,rfl,r.ok,?_,?_,?_,?_,?_,?_,fun q=>?_,fun q hq=>?_,fun q=>?_,?_,?_⟩
    ·simp [r.pairs]
    ·simp [r.fst]
    ·intro s hs;rcases List.mem_cons.1 hs with rfl|hs
     ·rfl
     ·exact r.key s hs
    ·intro s hs;rcases List.mem_cons.1 hs with rfl|hs
     ·refine ZhK.2 ⟨x.n,x.C,?_,rfl,?_,rfl⟩
      ·rw [r.rd p hpn];exact g.rd
      ·refine (hc x (by simp)).frame fun q hq=>?_;have hq':=hl q (List.mem_append.2 (.inl hq));rw [r.rd q (hln q hq'),g.rdo q (hne q hq')]
     ·exact r.tre s hs
    ·rw [List.map_cons,List.nodup_cons];exact ⟨hpn,r.new⟩
    ·intro q hq;rw [List.map_cons] at hq;rcases List.mem_cons.1 hq with rfl|hq
     ·exact ⟨g.dead,g.our⟩
     ·exact ⟨fun e=>(r.fresh q hq).1 ((g.now q).2 (.inl e)),(r.fresh q hq).2⟩
    ·rw [r.now,g.now,List.map_cons,List.mem_cons];constructor
     ·rintro ((h|h)|h)
      ·exact .inl h
      ·exact .inr (.inl h)
      ·exact .inr (.inr h)
     ·rintro (h|h|h)
      ·exact .inl (.inl h)
      ·exact .inl (.inr h)
      ·exact .inr h
    ·rw [List.map_cons,List.mem_cons,not_or] at hq;rw [r.rd q hq.2,g.rdo q hq.1]
    ·simp only [List.flatMap_cons,List.mem_append,List.mem_cons,List.map_cons,r.pages];constructor
     ·rintro ((h|h)|h|h)
      ·exact .inl (.inl h)
      ·exact .inr (.inl h)
      ·exact .inl (.inr h)
      ·exact .inr (.inr h)
     ·rintro ((h|h)|h|h)
      ·exact .inl (.inl h)
      ·exact .inr (.inl h)
      ·exact .inl (.inr h)
      ·exact .inr (.inr h)
    ·rw [List.flatMap_cons,List.nodup_append,List.nodup_cons];refine ⟨⟨fun e=>g.dead (hl p (List.mem_append.2 (.inl e))),n1⟩,r.nodup,fun a ha b hb e=>?_⟩;subst e;rw [r.pages] at hb;rcases List.mem_cons.1 ha with rfl|ha
     ·rcases hb with hb|hb
      ·exact hpn hb
      ·exact g.dead (hl a (List.mem_append.2 (.inr hb)))
     ·rcases hb with hb|hb
      ·exact hln a (hl a (List.mem_append.2 (.inl ha))) hb
      ·exact n3 a ha a hb rfl
    ·intro s hs;rcases List.mem_cons.1 hs with rfl|hs
     ·exact g.low
     ·exact r.two s hs
structure Repl (ours:Int→Prop) (B:List Int) (w w':ZS) (h:Nat) (old:List Int) (subs:List Sub) (ps:List ZR) (f:Key):Prop where
 ok:WOK ours B w'
 tre:∀s∈subs,Tre (rdW w'.Zc) h s.page s.fst s.pairs s.pages
 key:∀s∈subs,s.key=s.fst
 sok:ZdS subs
 pairs:subs.flatMap Sub.pairs=ps
 nodup:(subs.flatMap Sub.pages).Nodup
 now:∀q,live B w' q↔(live B w q∧q∉old)∨q∈subs.flatMap Sub.pages
 new:∀q∈subs.flatMap Sub.pages,¬(live B w q∧q∉old)
 keep:∀q,live B w q→q∉old→rdW w'.Zc q=rdW w.Zc q
 far:∀q,¬ours q→rdW w'.Zc q=rdW w.Zc q
 head:∃s rest,subs=s::rest∧s.fst=f∧rest.length≤1
 two:∀s∈subs,2≤s.page
def ZdH (w:ZS) (ns:List Z1) (old:Int):Option (ZS×List (Key×Int)):=match putS w ns with
 |none=>none
 |some (w',ks)=>some (ZbP w' old,ks)
theorem Zkn {ours:Int→Prop} {B:List Int} {h:Nat} {x:Part} {parts:List Part} {w w':ZS} {ks:List (Key×Int)} {p:Int} (hw:WOK ours B w) (hp1:parts.length≤1)
  (hc:∀y∈x::parts,Cand (rdW w.Zc) h y.n y.ps y.C) (hn:((x::parts).flatMap Part.C).Nodup) (hl:∀q∈(x::parts).flatMap Part.C,live B w q) (hp:live B w p) (hpc:p∉(x::parts).flatMap Part.C)
  (ho:(x::parts).Pairwise fun a b=>∀q∈a.ps,klt q.Zi (Zah b.n))
  (he:ZdH w ((x::parts).map Part.n) p=some (w',ks)):
  ∃subs:List Sub,ks=subs.map ZaZ∧Repl ours B w w' h (p::(x::parts).flatMap Part.C) subs ((x::parts).flatMap Part.ps) (Zah x.n):=by
 unfold ZdH at he;split at he
 ·cases he
 ·rename_i w1 ks1 hs;simp only [Option.some.injEq,Prod.mk.injEq] at he;obtain ⟨rfl,rfl⟩:=he;obtain ⟨subs,rfl,r⟩:=ZfU (h:=h) hw hc hn hl hs;have hlive:live B w1 p:=(r.now p).2 (.inl hp);obtain ⟨d1,d2⟩:=ZeP r.ok hlive;have hdk:(ZbP w1 p).Zc=w1.Zc:=ZbI;have hpg:p∉subs.map Sub.page:=fun e=>(r.fresh p e).1 hp
  refine ⟨subs,rfl,d1,?_,r.key,⟨fun s hs=>?_,?_⟩,?_,r.nodup,fun q=>?_,fun q hq=>?_,fun q hq ho=>?_,fun q hq=>?_,?_,r.two⟩
  ·rw [hdk];exact r.tre
  ·rw [r.key s hs];exact Zej
  ·have e1:=r.pairs;have e2:=r.fst;have e3:=r.key;clear r hs hpg;generalize x::parts=P at ho e1 e2;clear hc hn hl hpc;induction subs generalizing P with
   |nil=>exact List.Pairwise.nil
   |cons s subs ih=>
    cases P with
    |nil=>simp at e1
    |cons y P=>
     simp only [List.map_cons,List.cons.injEq] at e1 e2;obtain ⟨o1,o2⟩:=List.pairwise_cons.1 ho;refine List.pairwise_cons.2 ⟨fun s2 hs2 q hq=>?_,ih (fun s hs=>e3 s (by simp [hs])) P o2 e1.2 e2.2⟩;rw [e3 s2 (by simp [hs2])];have:s2.fst∈P.map fun x=>Zah x.n:=by rw [←e2.2];exact List.mem_map.2 ⟨s2,hs2,rfl⟩
     obtain ⟨z,hz,ez⟩:=List.mem_map.1 this;rw [←ez];exact o1 z hz q (by rw [←e1.1];exact hq)
  ·rw [List.flatMap_def,r.pairs,←List.flatMap_def]
  ·rw [d2,r.now,r.pages];simp only [List.mem_cons,not_or];constructor
   ·rintro ⟨h|h,hne⟩
    ·by_cases hq:q∈(x::parts).flatMap Part.C
     ·exact .inr (.inr hq)
     ·exact .inl ⟨h,hne,hq⟩
    ·exact .inr (.inl h)
   ·rintro (⟨h1,h2,h3⟩|h|h)
    ·exact ⟨.inl h1,h2⟩
    ·exact ⟨.inr h,fun e=>hpg (e▸h)⟩
    ·exact ⟨.inl (hl q h),fun e=>hpc (e▸h)⟩
  ·simp only [List.mem_cons,not_or];rintro ⟨h1,h2,h3⟩;rw [r.pages] at hq;rcases hq with hq|hq
   ·exact (r.fresh q hq).1 h1
   ·exact h3 hq
  ·rw [hdk];exact r.rd q fun e=>(r.fresh q e).1 hq
  ·rw [hdk];exact r.rd q fun e=>hq (r.fresh q e).2
  ·have e:=r.fst;cases subs with
   |nil=>simp at e
   |cons s rest=>
    simp only [List.map_cons,List.cons.injEq] at e;have:=congrArg List.length e.2;simp only [List.length_map] at this;exact ⟨s,rest,rfl,e.1,by omega⟩
end Go.Rx
namespace Go.Rx
open Go
structure Cur where
 b:List UInt8
 i:Nat
 h:Int
def Cur.cells (c:Cur):List V:=[.d (.sl (bys c.b)),.d (.int .i64 c.i),.d (.int .i64 c.h)]
theorem Cur.cells_eq {c:Cur}:c.cells=[.d (.sl (bys c.b)),.d (.int .i64 c.i),.d (.int .i64 c.h)]:=rfl
def Cur.ok (c:Cur):Prop:=c.i≤c.b.length∧c.b.length≤1048576
def Zw9 (h:Int):Int:=IntKind.i64.wrap (IntKind.i64.wrap (h*6364136223846793005)+1442695040888963407)
theorem ZhE {x:Int}:0≤bAnd .i64 x 255∧bAnd .i64 x 255≤255:=by
 have h:(BitVec.ofInt 64 x&&&BitVec.ofInt 64 255).toNat≤255:=by
  rw [BitVec.toNat_and];exact Nat.le_trans Nat.and_le_right (by decide)
 have e:bAnd .i64 x 255=IntKind.i64.wrap ((BitVec.ofInt 64 x&&&BitVec.ofInt 64 255).toNat:Nat):=rfl;rw [e,Zad (by omega) (by omega)];omega
def byteX (h:Int):Int:=bAnd .i64 (bXor .i64 (bShr .i64 (Zw9 h) 33) (bShr .i64 (Zw9 h) 45)) 255
def Cur.byte (c:Cur):Int×Cur:=match c.b[c.i]? with
 |some p=>(bAnd .i64 (IntKind.i64.wrap (byteX c.h+IntKind.i64.wrap (p.toNat:Int))) 255,⟨c.b,c.i+1,Zw9 c.h⟩)
 |none=>(byteX c.h,⟨c.b,c.i,Zw9 c.h⟩)
theorem Cur.byte_range {c:Cur}:0≤c.byte.1∧c.byte.1≤255:=by
 unfold Cur.byte;split
 ·exact ZhE
 ·exact ZhE
theorem Cur.byte_ok {c:Cur} (h:c.ok):c.byte.2.ok:=by
 unfold Cur.byte;split
 ·rename_i p hp;obtain ⟨h1,_⟩:=List.getElem?_eq_some_iff.1 hp;exact ⟨h1,h.2⟩
 ·exact h
def Cur.below (c:Cur) (n:Int):Int×Cur:=
 if n≤0 then (0,c) else if n≤256 then (c.byte.1.tmod n,c.byte.2) else
 ((c.byte.1*16777216+c.byte.2.byte.1*65536+c.byte.2.byte.2.byte.1*256+c.byte.2.byte.2.byte.2.byte.1).tmod n,c.byte.2.byte.2.byte.2.byte.2)
theorem Cur.below_ok {c:Cur} {n:Int} (h:c.ok):(c.below n).2.ok:=by
 unfold Cur.below;split
 ·exact h
 ·split
  ·exact Cur.byte_ok h
  ·exact Cur.byte_ok (Cur.byte_ok (Cur.byte_ok (Cur.byte_ok h)))
theorem Cur.below_range {c:Cur} {n:Int} (h:0<n):0≤(c.below n).1∧(c.below n).1<n:=by
 unfold Cur.below;rw [if_neg (by omega)];have h1:=Cur.byte_range (c:=c);have h2:=Cur.byte_range (c:=c.byte.2);have h3:=Cur.byte_range (c:=c.byte.2.byte.2);have h4:=Cur.byte_range (c:=c.byte.2.byte.2.byte.2);split
 ·exact ⟨Int.tmod_nonneg _ h1.1,Int.tmod_lt_of_pos _ h⟩
 ·exact ⟨Int.tmod_nonneg _ (by omega),Int.tmod_lt_of_pos _ h⟩
def Cur.pick (c:Cur) (l:List (List UInt8)):List UInt8×Cur:=(l.getD (c.below l.length).1.toNat [],(c.below l.length).2)
theorem Cur.pick_ok {c:Cur} {l:List (List UInt8)} (h:c.ok):(c.pick l).2.ok:=Cur.below_ok h
def Cur.pickI (c:Cur) (l:List Int):Int×Cur:=(l.getD (c.below l.length).1.toNat 0,(c.below l.length).2)
theorem Cur.pickI_ok {c:Cur} {l:List Int} (h:c.ok):(c.pickI l).2.ok:=Cur.below_ok h
theorem Cur.pickI_mem {c:Cur} {l:List Int} (h:l≠ []):(c.pickI l).1∈l:=by
 have hl:0<l.length:=List.length_pos_iff.2 h;have:=Cur.below_range (c:=c) (n:=l.length) (by omega);unfold Cur.pickI;simp only;rw [List.getD_eq_getElem?_getD,List.getElem?_eq_getElem (by omega),Option.getD_some];exact List.getElem_mem _
def Cur.once (c:Cur) (n:Int):Bool×Cur:=(decide ((c.below n).1=0),(c.below n).2)
theorem Cur.once_ok {c:Cur} {n:Int} (h:c.ok):(c.once n).2.ok:=Cur.below_ok h
def keyL:List (List UInt8):=[[97],[98],[99],[100],[101],[102],[103],[104],[107],[109],[112],[113],[115],[120],[122],[]]
def Cur.key (c:Cur):List UInt8×Cur:=c.pick keyL
theorem Cur.key_ok {c:Cur} (h:c.ok):c.key.2.ok:=Cur.pick_ok h
def Zq6 (h:Int) (p:UInt8):Int:=bAnd .i64 (IntKind.i64.wrap (IntKind.i64.wrap (IntKind.i64.wrap (h*131)+IntKind.i64.wrap (p.toNat:Int))+7)) 1073741823
def hNew (code:List UInt8):Int:=(code.take 4000).foldl Zq6 (IntKind.i64.wrap (38301+code.length))
def Cur.new (code:List UInt8):Cur:=⟨code,0,hNew code⟩
theorem Cur.new_ok {code:List UInt8} (h:code.length≤1048576):(Cur.new code).ok:=⟨Nat.zero_le _,h⟩
theorem Zq7 {code:List UInt8} {i:Nat} {h:Int} (h2:i≤code.length) (h3:i≤4000) (h4:h=(code.take i).foldl Zq6 (IntKind.i64.wrap (38301+code.length))) (ho:i=code.length∨i=4000):h=hNew code:=by
 rw [h4,hNew];congr 1;rcases ho with rfl|rfl
 ·rw [List.take_length,List.take_of_length_le (by omega)]
 ·rfl
def Zd1 (l:List ZR) (key:List UInt8):List ZR:=l.filter fun p=>Zax p.Zi key
def Zd5 (l:List ZR) (key:List UInt8):List ZR:=l.filter fun p=>Zax key p.Zi
theorem Zzn {a b:Key}:decide (klt a b)=Zax a b:=by
 cases h:Zax a b
 ·exact decide_eq_false (by unfold klt;rw [h];simp)
 ·exact decide_eq_true h
theorem Zo2 {l:List ZR} {key val:List UInt8}:mput l key val=Zd1 l key++⟨key,val⟩::Zd5 l key:=by
 simp [mput,Zd1,Zd5,Zzn]
theorem ZgG {l:List ZR} {key:List UInt8} {i:Nat} {p:ZR} (h:l[i]? =some p):Zd1 (l.take (i+1)) key=Zd1 (l.take i) key++(if Zax p.Zi key=true then [p] else []):=by
 rw [Z7 h];simp only [Zd1,List.filter_append];by_cases hp:Zax p.Zi key=true<;>simp [hp]
theorem Zel {l:List ZR} {key:List UInt8} {i:Nat} {p:ZR} (h:l[i]? =some p):Zd5 (l.take (i+1)) key=Zd5 (l.take i) key++(if Zax key p.Zi=true then [p] else []):=by
 rw [Z7 h];simp only [Zd5,List.filter_append];by_cases hp:Zax key p.Zi=true<;>simp [hp]
theorem ZeJ {l:List ZR} {key:List UInt8}:(Zd1 l key).length≤l.length:=List.length_filter_le _ _
theorem Zpi {l:List ZR} {key:List UInt8}:(Zd5 l key).length≤l.length:=List.length_filter_le _ _
theorem Zuy {l:List ZR} {key val:List UInt8}:(mput l key val).length≤l.length+1:=by
 rw [Zo2];have:(Zd1 l key).length+(Zd5 l key).length≤l.length:=by
  unfold Zd1 Zd5;induction l with
  |nil=>simp
  |cons p l ih=>
   by_cases h1:Zax p.Zi key=true
   ·have h2:¬Zax key p.Zi=true:=fun h=>by have:=Zfc h1 h;rw [ZhD] at this;cases this
    simp only [List.filter_cons,h1,h2,if_true,Bool.false_eq_true,if_false,List.length_cons];omega
   ·by_cases h2:Zax key p.Zi=true
    ·simp only [List.filter_cons,h1,h2,if_true,Bool.false_eq_true,if_false,List.length_cons];omega
    ·simp only [List.filter_cons,h1,h2,if_true,Bool.false_eq_true,if_false,List.length_cons];omega
 simp only [List.length_append,List.length_cons];omega
def Zdh (l:List ZR) (key val:List UInt8) (i:Nat):List ZR:=Zd1 l key++⟨key,val⟩::Zd5 (l.take i) key
theorem Znj {l:List ZR} {key val:List UInt8} {i:Nat} (h:l.length≤1048576):(Zdh l key val i).length≤2097153:=by
 have h1:=ZeJ (l:=l) (key:=key);have h2:=Zpi (l:=l.take i) (key:=key);simp only [List.length_take] at h2;simp [Zdh];omega
def Zqx (c:Cur) (l:List ZR):List ZR×Cur:=
 (mput l (c.key.1++(c.key.2.pick [[],[49]]).1) ((c.key.2.pick [[],[49]]).2.pick [[],[118]]).1,((c.key.2.pick [[],[49]]).2.pick [[],[118]]).2)
def Zuj:Nat→Nat→Cur→List ZR→List ZR×Cur
 |0,_,c,l=>(l,(c.below 20).2)
 |f+1,i,c,l=>if (i:Int)<(c.below 20).1 then Zuj f (i+1) (Zqx (c.below 20).2 l).2 (Zqx (c.below 20).2 l).1 else (l,(c.below 20).2)
def drawn (c:Cur):List ZR×Cur:=Zuj 20 0 c []
end Go.Rx
