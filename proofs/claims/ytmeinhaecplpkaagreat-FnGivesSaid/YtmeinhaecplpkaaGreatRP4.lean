/-
  Part P4: lemmas on an evaluator over plain data of the model's code, plain laws on lists and numbers, or contracts of functions of the program; each lemma names its conditions.
-/
import Derived.Test.YtmeinhaecplpkaaGreatRP3

set_option linter.unusedSimpArgs false
set_option linter.unusedVariables false
namespace Go.Rx
open Go
def freeOk (m:GMeta) (f:GFree):Prop:=
 (1≤f.fTx∧f.fTx≤m.fTx)∧(1≤f.fPages.length∧f.fPages.length≤40)∧f.fPages.Pairwise (·< ·)∧∀p∈f.fPages,2≤p∧p≤m.fNext - 1
instance {m:GMeta} {f:GFree}:Decidable (freeOk m f):=by unfold freeOk;infer_instance
def metaHead (m:GMeta):Prop:=
 (0≤m.fTx∧m.fTx≤100000)∧(2≤m.fNext∧m.fNext≤40)∧(m.fRoot=0∨2≤m.fRoot∧m.fRoot≤m.fNext - 1)∧m.fFrees.length≤20
instance {m:GMeta}:Decidable (metaHead m):=by unfold metaHead;infer_instance
def freePages (l:List GFree):List Int:=l.flatMap (·.fPages)
def freesOk (m:GMeta) (l:List GFree):Prop:=
 (∀f∈l,freeOk m f)∧(l.map (·.fTx)).Pairwise (·< ·)∧(m.fRoot::freePages l).Nodup
instance {m:GMeta} {l:List GFree}:Decidable (freesOk m l):=by unfold freesOk;infer_instance
def metaOk (m:GMeta):Prop:=metaHead m∧freesOk m m.fFrees
instance {m:GMeta}:Decidable (metaOk m):=by unfold metaOk;infer_instance
theorem asc_snocI {l:List Int} {x:Int}:(l++[x]).Pairwise (·< ·)↔l.Pairwise (·< ·)∧∀y,l.getLast? =some y→y<x:=by
 rw [List.pairwise_append]
 constructor
 ·rintro ⟨h1,_,h3⟩
  exact ⟨h1,fun y hy=>h3 y (List.mem_of_getLast? hy) x (by simp)⟩
 ·rintro ⟨h1,h2⟩
  refine ⟨h1,by simp,fun a ha b hb=>?_⟩
  simp at hb;subst hb
  cases hl:l.getLast? with
  |none=>rw [List.getLast?_eq_none_iff] at hl;subst hl;simp at ha
  |some y=>
   obtain ⟨l',rfl⟩:=List.getLast?_eq_some_iff.1 hl
   have:=h2 y hl
   rcases List.mem_append.1 ha with ha|ha
   ·have:=(List.pairwise_append.1 h1).2.2 a ha y (by simp);omega
   ·simp at ha;subst ha;exact this
theorem take_last {α:Type} {l:List α} {i:Nat} {x:α} (h:l[i]? =some x):(l.take (i+1)).getLast? =some x:=by
 rw [take_snoc h];simp
theorem freePages_snoc {l:List GFree} {f:GFree}:freePages (l++[f])=freePages l++f.fPages:=by simp [freePages]
def partOk (m:GMeta) (seen l:List Int):Prop:=l.Pairwise (·< ·)∧(∀p∈l,2≤p∧p≤m.fNext - 1)∧(seen++l).Nodup
theorem partOk_nil {m:GMeta} {seen:List Int} (h:seen.Nodup):partOk m seen []:=⟨by simp,by simp,by simpa using h⟩
theorem partOk_snoc {m:GMeta} {seen l:List Int} {x:Int}:partOk m seen (l++[x])↔partOk m seen l∧(2≤x∧x≤m.fNext - 1)∧(∀y,l.getLast? =some y→y<x)∧x∉seen++l:=by
 unfold partOk
 rw [asc_snocI,←List.append_assoc]
 have h:((seen++l)++[x]).Nodup↔(seen++l).Nodup∧x∉seen++l:=by
  rw [List.nodup_append]
  constructor
  ·rintro ⟨h1,_,h3⟩;exact ⟨h1,fun hx=>h3 x hx x (by simp) rfl⟩
  ·rintro ⟨h1,h2⟩;exact ⟨h1,by simp,fun a ha b hb=>by simp at hb;subst hb;rintro rfl;exact h2 ha⟩
 rw [h]
 constructor
 ·rintro ⟨⟨h1,h2⟩,h3,h4,h5⟩
  exact ⟨⟨h1,fun p hp=>h3 p (by simp [hp]),h4⟩,h3 x (by simp),h2,h5⟩
 ·rintro ⟨⟨h1,h2,h3⟩,h4,h5,h6⟩
  refine ⟨⟨h1,h5⟩,fun p hp=>?_,h3,h6⟩
  rcases List.mem_append.1 hp with hp|hp
  ·exact h2 p hp
  ·simp at hp;subst hp;exact h4
theorem partOk_take {m:GMeta} {seen l:List Int} {i:Nat} (h:partOk m seen l):partOk m seen (l.take i):=
 ⟨h.1.sublist (List.take_sublist i l),fun p hp=>h.2.1 p (List.mem_of_mem_take hp),h.2.2.sublist ((List.take_sublist i l).append_left seen)⟩
theorem freesOk_snoc {m:GMeta} {l:List GFree} {f:GFree}:freesOk m (l++[f])↔freesOk m l∧(1≤f.fTx∧f.fTx≤m.fTx)∧(∀g,l.getLast? =some g→g.fTx<f.fTx)∧(1≤f.fPages.length∧f.fPages.length≤40)∧partOk m (m.fRoot::freePages l) f.fPages:=by
 unfold freesOk partOk
 rw [List.map_append,List.map_singleton,asc_snocI,freePages_snoc]
 have e1:(∀y,(l.map (·.fTx)).getLast? =some y→y<f.fTx)↔∀g,l.getLast? =some g→g.fTx<f.fTx:=by
  rw [List.getLast?_map]
  cases l.getLast? <;>simp
 rw [e1]
 constructor
 ·rintro ⟨h1,⟨h2,h3⟩,h4⟩
  have hf:=h1 f (by simp)
  have h4':(m.fRoot::freePages l).Nodup:=h4.sublist (by simp)
  exact ⟨⟨fun g hg=>h1 g (by simp [hg]),h2,h4'⟩,hf.1,h3,hf.2.1,hf.2.2.1,hf.2.2.2,h4⟩
 ·rintro ⟨⟨h1,h2,h3⟩,h4,h5,h6,h7,h8,h9⟩
  refine ⟨fun g hg=>?_,⟨h2,h5⟩,h9⟩
  rcases List.mem_append.1 hg with hg|hg
  ·exact h1 g hg
  ·simp at hg;subst hg;exact ⟨h4,h6,h7,h8⟩
theorem freesOk_take {m:GMeta} {l:List GFree} {i:Nat} (h:freesOk m l):freesOk m (l.take i):=by
 refine ⟨fun f hf=>h.1 f (List.mem_of_mem_take hf),?_,?_⟩
 ·rw [List.map_take];exact h.2.1.sublist (List.take_sublist i _)
 ·refine h.2.2.sublist (List.Sublist.cons_cons _ ?_)
  have e:l.flatMap (·.fPages)=(l.take i).flatMap (·.fPages)++(l.drop i).flatMap (·.fPages):=by rw [←List.flatMap_append,List.take_append_drop]
  unfold freePages
  rw [e]
  exact List.sublist_append_left _ _
theorem freesOk_nil {m:GMeta}:freesOk m []:=⟨by simp,by simp,by simp [freePages]⟩
end Go.Rx
namespace Go.Rx
theorem freePages_len {m:GMeta}:∀ {l:List GFree},(∀f∈l,freeOk m f)→(freePages l).length≤40*l.length
 |[],_=>by simp [freePages]
 |f::l,h=>by
  have h1:=(h f (by simp)).2.1.2
  have h2:=freePages_len (l:=l) fun g hg=>h g (by simp [hg])
  unfold freePages at h2 ⊢
  simp only [List.flatMap_cons,List.length_append,List.length_cons]
  omega
theorem take_last_of {α:Type} {l:List α} {j:Nat} {q x:α} (h:l[j]? =some q) (hx:(l.take (j+1)).getLast? =some x):x=q:=by
 rw [take_last h] at hx;exact (Option.some.inj hx).symm
end Go.Rx
namespace Go.Rx
open Go
def nB (x:Int):List UInt8:=varB x.toNat
def freeB (f:GFree):List UInt8:=nB f.fTx++varB f.fPages.length++f.fPages.flatMap nB
def metaB (m:GMeta):List UInt8:=nB m.fTx++nB m.fRoot++nB m.fNext++varB m.fFrees.length++m.fFrees.flatMap freeB
def metaT (m:GMeta):List UInt8:=sealB (metaB m)
def metaText (m:GMeta):Option (List UInt8):=if metaOk m∧(metaT m).length≤240 then some (metaT m) else none
def pagesL (t:List UInt8):Nat→List Int→Nat×Bool→List Int×(Nat×Bool)
 |0,out,r=>(out,r)
 |n+1,out,r=>if r.2=true then (out,r) else pagesL t n (out++[((rdV t 1000000000 r).1:Int)]) (rdV t 1000000000 r).2
def freeL (t : List UInt8) (r : Nat × Bool) : GFree × (Nat × Bool) :=
  (⟨((rdV t 1000000000 r).1 : Int), (pagesL t (min (rdV t 1000000000 (rdV t 1000000000 r).2).1 50) [] (rdV t 1000000000 (rdV t 1000000000 r).2).2).1⟩,
   (pagesL t (min (rdV t 1000000000 (rdV t 1000000000 r).2).1 50) [] (rdV t 1000000000 (rdV t 1000000000 r).2).2).2)
def freesL (t:List UInt8):Nat→List GFree→Nat×Bool→List GFree×(Nat×Bool)
 |0,out,r=>(out,r)
 |n+1,out,r=>if r.2=true then (out,r) else freesL t n (out++[(freeL t r).1]) (freeL t r).2
def parseM (t:List UInt8) (b:Bool):GMeta×Bool:=
 let a:=rdV t 1000000000 (0,b)
 let c:=rdV t 1000000000 a.2
 let d:=rdV t 1000000000 c.2
 let e:=rdV t 1000000000 d.2
 (⟨a.1,c.1,d.1,(freesL t (min e.1 30) [] e.2).1⟩,(freesL t (min e.1 30) [] e.2).2.2)
def readMeta (t:List UInt8):Option GMeta:=match unsealB t with
 |none=>none
 |some s=>if (parseM s false).2=false∧metaText (parseM s false).1=some t then some (parseM s false).1 else none
theorem rdV_step {t rest:List UInt8} {n:Nat} {r:Nat×Bool} (hr:r.1≤t.length) (hs:sfx t r=some (varB n++rest)) (hn:n≤1000000000):
  (rdV t 1000000000 r).1=n∧(rdV t 1000000000 r).2.1≤t.length∧sfx t (rdV t 1000000000 r).2=some rest:=by
 have h:=rdV_sfx (most:=1000000000) hr
 rw [hs] at h
 simp only at h
 rw [show rv (varB n++rest)=some (n,rest) from rv_iff.2 ⟨hn,rfl⟩] at h
 simp only at h
 rw [if_pos hn] at h
 exact ⟨h.1,rdV_le hr,h.2⟩
theorem sfx_ok {t l:List UInt8} {r:Nat×Bool} (h:sfx t r=some l):r.2=false:=by
 cases hb:r.2
 ·rfl
 ·rw [sfx_none.2 hb] at h;cases h
theorem pagesL_ok {t rest:List UInt8}:∀ {ps out:List Int} {r:Nat×Bool},r.1≤t.length→(∀p∈ps,0≤p∧p≤1000000000)→sfx t r=some (ps.flatMap nB++rest)→
  (pagesL t ps.length out r).1=out++ps∧(pagesL t ps.length out r).2.1≤t.length∧sfx t (pagesL t ps.length out r).2=some rest
 |[],out,r,hr,_,hs=>by simp [pagesL,hr] at hs ⊢;exact hs
 |p::ps,out,r,hr,hp,hs=>by
  have hb:=sfx_ok hs
  have hp0:=hp p (by simp)
  rw [List.flatMap_cons,List.append_assoc] at hs
  obtain ⟨h1,h2,h3⟩:=rdV_step hr hs (by omega)
  have h:=pagesL_ok (out:=out++[p]) h2 (fun q hq=>hp q (by simp [hq])) h3
  have e:(((rdV t 1000000000 r).1:Nat):Int)=p:=by omega
  simp only [List.length_cons,pagesL]
  rw [if_neg (by simp [hb]),e]
  simpa using h
theorem freeL_ok {t rest:List UInt8} {f:GFree} {r:Nat×Bool} (hr:r.1≤t.length) (h0:0≤f.fTx∧f.fTx≤1000000000) (h1:f.fPages.length≤50) (hp:∀p∈f.fPages,0≤p∧p≤1000000000) (hs:sfx t r=some (freeB f++rest)):
  (freeL t r).1=f∧(freeL t r).2.1≤t.length∧sfx t (freeL t r).2=some rest:=by
 unfold freeB at hs
 rw [List.append_assoc,List.append_assoc] at hs
 obtain ⟨a1,a2,a3⟩:=rdV_step hr hs (by omega)
 obtain ⟨b1,b2,b3⟩:=rdV_step a2 a3 (by omega)
 obtain ⟨c1,c2,c3⟩:=pagesL_ok (out:=[]) b2 hp b3
 unfold freeL
 rw [a1,b1,Nat.min_eq_left h1]
 refine ⟨?_,c2,c3⟩
 rw [c1,Int.toNat_of_nonneg h0.1];rfl
theorem freesL_ok {t rest:List UInt8}:∀ {fs out:List GFree} {r:Nat×Bool},r.1≤t.length→(∀f∈fs,(0≤f.fTx∧f.fTx≤1000000000)∧f.fPages.length≤50∧∀p∈f.fPages,0≤p∧p≤1000000000)→sfx t r=some (fs.flatMap freeB++rest)→
  (freesL t fs.length out r).1=out++fs∧sfx t (freesL t fs.length out r).2=some rest
 |[],out,r,hr,_,hs=>by simp [freesL] at hs ⊢;exact hs
 |f::fs,out,r,hr,hp,hs=>by
  have hb:=sfx_ok hs
  obtain ⟨p1,p2,p3⟩:=hp f (by simp)
  rw [List.flatMap_cons,List.append_assoc] at hs
  obtain ⟨h1,h2,h3⟩:=freeL_ok hr p1 p2 p3 hs
  have h:=freesL_ok (out:=out++[f]) h2 (fun q hq=>hp q (by simp [hq])) h3
  simp only [List.length_cons,freesL]
  rw [if_neg (by simp [hb]),h1]
  simpa using h
theorem metaB_len {m:GMeta} (h:metaOk m):(metaB m).length≤20000:=by
 obtain ⟨⟨h1,h2,h3,h4⟩,h5,_,_⟩:=h
 have hv:∀x:Int,0≤x→x≤100000→(nB x).length≤9:=fun x a b=>varB_len9 (by omega)
 have hpg:∀ps:List Int,(∀p∈ps,0≤p∧p≤100000)→(ps.flatMap nB).length≤9*ps.length:=by
  intro ps
  induction ps with
  |nil=>simp
  |cons p ps ih=>
   intro hp
   have a:=ih fun q hq=>hp q (by simp [hq])
   have b:=hv p (hp p (by simp)).1 (hp p (by simp)).2
   simp only [List.flatMap_cons,List.length_append,List.length_cons];omega
 have hfr:∀fs:List GFree,(∀f∈fs,freeOk m f)→(fs.flatMap freeB).length≤400*fs.length:=by
  intro fs
  induction fs with
  |nil=>simp
  |cons f fs ih=>
   intro hf
   have a:=ih fun q hq=>hf q (by simp [hq])
   obtain ⟨f1,f2,f3,f4⟩:=hf f (by simp)
   have b:=hpg f.fPages fun p hp=>by have:=f4 p hp;omega
   have c:=hv f.fTx (by omega) (by omega)
   have d:(varB f.fPages.length).length≤9:=varB_len9 (by omega)
   simp only [List.flatMap_cons,List.length_append,List.length_cons,freeB];omega
 have a:=hfr _ h5
 have b:=hv m.fTx (by omega) (by omega)
 have c:=hv m.fRoot (by omega) (by omega)
 have d:=hv m.fNext (by omega) (by omega)
 have e:(varB m.fFrees.length).length≤9:=varB_len9 (by omega)
 simp only [metaB,List.length_append];omega
theorem parseM_pre {m:GMeta} {rest:List UInt8} (h:metaOk m):parseM (metaB m++rest) false=(m,false):=by
 obtain ⟨⟨h1,h2,h3,h4⟩,h5,_,_⟩:=h
 have hs:sfx (metaB m++rest) (0,false)=some (metaB m++rest):=by simp [sfx]
 have hs2:metaB m++rest=varB m.fTx.toNat++(varB m.fRoot.toNat++(varB m.fNext.toNat++(varB m.fFrees.length++(m.fFrees.flatMap freeB++rest)))):=by simp [metaB,nB]
 have hs':sfx (metaB m++rest) (0,false)=some (varB m.fTx.toNat++(varB m.fRoot.toNat++(varB m.fNext.toNat++(varB m.fFrees.length++(m.fFrees.flatMap freeB++rest))))):=hs.trans (congrArg some hs2)
 obtain ⟨a1,a2,a3⟩:=rdV_step (by simp) hs' (by omega)
 obtain ⟨b1,b2,b3⟩:=rdV_step a2 a3 (by omega)
 obtain ⟨c1,c2,c3⟩:=rdV_step b2 b3 (by omega)
 obtain ⟨d1,d2,d3⟩:=rdV_step c2 c3 (by omega)
 obtain ⟨e1,e2⟩:=freesL_ok (out:=[]) d2 (fun f hf=>by
  obtain ⟨f1,f2,f3,f4⟩:=h5 f hf
  exact ⟨by omega,by omega,fun p hp=>by have:=f4 p hp;omega⟩) d3
 unfold parseM
 simp only
 rw [a1,b1,c1,d1,Nat.min_eq_left (by omega),e1,sfx_ok e2,Int.toNat_of_nonneg (by omega),Int.toNat_of_nonneg (by omega),Int.toNat_of_nonneg (by omega)]
 rfl
theorem parseM_ok {m:GMeta} (h:metaOk m):parseM (metaB m) false=(m,false):=by
 have:=parseM_pre (rest:=[]) h
 rwa [List.append_nil] at this
theorem metaB_pre {m m':GMeta} {a b:List UInt8} (h:metaOk m) (h':metaOk m') (he:metaB m++a=metaB m'++b):m=m':=by
 have h1:=parseM_pre (rest:=a) h
 rw [he,parseM_pre h'] at h1
 exact (congrArg Prod.fst h1).symm
theorem readMeta_iff {t:List UInt8} {m:GMeta}:readMeta t=some m↔metaText m=some t:=by
 constructor
 ·intro h
  unfold readMeta at h
  split at h
  ·cases h
  ·split at h
   ·rename_i h2
    obtain rfl:=Option.some.inj h
    exact h2.2
   ·cases h
 ·intro h
  have h0:=h
  unfold metaText at h
  split at h
  ·rename_i hm
   obtain rfl:=Option.some.inj h
   have hu:unsealB (metaT m)=some (metaB m):=unseal_iff.2 ⟨metaB_len hm.1,rfl⟩
   rw [readMeta,hu]
   simp only
   rw [parseM_ok hm.1]
   simp only
   rw [if_pos ⟨by trivial,h0⟩]
  ·cases h
theorem readMeta_ok {t:List UInt8} {m:GMeta} (h:readMeta t=some m):metaOk m∧t=metaT m∧t.length≤240:=by
 have h:=readMeta_iff.1 h
 unfold metaText at h
 split at h
 ·rename_i hm
  obtain rfl:=Option.some.inj h
  exact ⟨hm.1,rfl,hm.2⟩
 ·cases h
theorem readMeta_part {m:GMeta} {n:Nat} (h:metaOk m) (hn:n<(metaT m).length):readMeta ((metaT m).take n)=none:=by
 cases hr:readMeta ((metaT m).take n) with
 |none=>rfl
 |some m'=>
  obtain ⟨h1,h2,h3⟩:=readMeta_ok hr
  have e1:metaT m=metaT m'++(metaT m).drop n:=by rw [←h2,List.take_append_drop]
  have e2:metaB m++four (sumOf (metaB m))=metaB m'++(four (sumOf (metaB m'))++(metaT m).drop n):=by
   rw [←List.append_assoc];exact e1
  obtain rfl:=metaB_pre h h1 e2
  have:=congrArg List.length h2
  rw [List.length_take] at this
  omega
theorem readMeta_nil:readMeta []=none:=by
 have:unsealB []=none:=by rw [unsealB,if_neg (by simp)]
 rw [readMeta,this]
end Go.Rx
namespace Go.Rx
open Go
theorem writePage_pages {d d':GDisk} {p:Int} {t:List UInt8} (h:writePage d p t=some d'):d'.fPages=d.fPages:=by
 unfold writePage at h
 split at h
 ·obtain rfl:=Option.some.inj h;rfl
 ·cases h
theorem giveP_disk {w:GWork}:(giveP w).1.fDisk=w.fDisk:=by
 unfold giveP
 split
 ·rfl
 ·split<;>rfl
theorem putN_pages {w w':GWork} {n:GNode} {p:Int} (h:putN w n=some (w',p)):w'.fDisk.fPages=w.fDisk.fPages:=by
 unfold putN at h
 split at h
 ·split at h
  ·cases h
  ·split at h
   ·cases h
   ·rename_i d hd
    simp only [Option.some.injEq,Prod.mk.injEq] at h
    obtain ⟨rfl,rfl⟩:=h
    have:=writePage_pages hd
    rw [giveP_disk] at this
    exact this
 ·cases h
theorem putS_pages:∀ {ns:List GNode} {w w':GWork} {ks:List (Key×Int)},putS w ns=some (w',ks)→w'.fDisk.fPages=w.fDisk.fPages
 |[],w,w',ks,h=>by simp only [putS,Option.some.injEq,Prod.mk.injEq] at h;rw [h.1]
 |n::ns,w,w',ks,h=>by
  rw [putS] at h
  split at h
  ·cases h
  ·rename_i w1 p h1
   split at h
   ·cases h
   ·rename_i w2 ks2 h2
    simp only [Option.some.injEq,Prod.mk.injEq] at h
    obtain ⟨rfl,rfl⟩:=h
    rw [putS_pages h2,putN_pages h1]
theorem anewN_pages {ns:List GNode} {w w':GWork} {old:Int} {ks:List (Key×Int)} (h:anewN w ns old=some (w',ks)):w'.fDisk.fPages=w.fDisk.fPages:=by
 unfold anewN at h
 split at h
 ·cases h
 ·rename_i w1 ks1 h1
  simp only [Option.some.injEq,Prod.mk.injEq] at h
  obtain ⟨rfl,rfl⟩:=h
  rw [dropP_disk,putS_pages h1]
theorem putU_pages:∀ {f:Nat} {w w':GWork} {page:Int} {key val:Key} {kk:List (Key×Int)} {dp:Nat},putU f w page key val=some (w',kk,dp)→w'.fDisk.fPages=w.fDisk.fPages
 |0,w,w',page,key,val,kk,dp,h=>by cases h
 |f+1,w,w',page,key,val,kk,dp,h=>by
  rw [putU] at h
  split at h
  ·cases h
  ·split at h
   ·obtain ⟨⟨a,b⟩,h1,h2⟩:=Option.map_eq_some_iff.1 h
    simp only [Prod.mk.injEq] at h2
    obtain ⟨rfl,_⟩:=h2
    exact anewN_pages h1
   ·split at h
    ·cases h
    ·rename_i w1 kk1 dp1 hu
     obtain ⟨⟨a,b⟩,h1,h2⟩:=Option.map_eq_some_iff.1 h
     simp only [Prod.mk.injEq] at h2
     obtain ⟨rfl,_⟩:=h2
     rw [anewN_pages h1,putU_pages hu]
theorem putK_pages {w w':GWork} {root r':Int} {key val:Key} (h:putK w root key val=some (w',r')):w'.fDisk.fPages=w.fDisk.fPages:=by
 unfold putK at h
 split at h
 ·cases h
 ·split at h
  ·exact putN_pages h
  ·split at h
   ·cases h
   ·rename_i w1 kk dp hu
    split at h
    ·cases h
    ·simp only [Option.some.injEq,Prod.mk.injEq] at h
     obtain ⟨rfl,_⟩:=h
     exact putU_pages hu
    ·split at h
     ·cases h
     ·rw [putN_pages h,putU_pages hu]
theorem finU_pages {w w':GWork} {n:GNode} {page p:Int} (h:finU w n page=some (w',p)):w'.fDisk.fPages=w.fDisk.fPages:=by
 unfold finU at h
 split at h
 ·simp only [Option.some.injEq,Prod.mk.injEq] at h
  obtain ⟨rfl,_⟩:=h
  rw [dropP_disk]
 ·split at h
  ·cases h
  ·rename_i w1 p1 h1
   simp only [Option.some.injEq,Prod.mk.injEq] at h
   obtain ⟨rfl,_⟩:=h
   rw [dropP_disk,putN_pages h1]
theorem dropU_pages:∀ {f:Nat} {w w':GWork} {page p:Int} {key:Key},dropU f w page key=some (w',p)→w'.fDisk.fPages=w.fDisk.fPages
 |0,w,w',page,p,key,h=>by cases h
 |f+1,w,w',page,p,key,h=>by
  rw [dropU] at h
  split at h
  ·cases h
  ·split at h
   ·cases h
   ·split at h
    ·split at h
     ·exact finU_pages h
     ·cases h
    ·split at h
     ·cases h
     ·rename_i w1 k hu
      rw [finU_pages h,dropU_pages hu]
theorem topU_disk:∀ {f:Nat} {w:GWork} {top:Int},(topU f w top).1.fDisk=w.fDisk
 |0,w,top=>rfl
 |f+1,w,top=>by
  rw [topU]
  split
  ·rfl
  ·split
   ·rfl
   ·split
    ·rfl
    ·rw [topU_disk,dropP_disk]
theorem dropK_pages {w w':GWork} {root r':Int} {key:Key} (h:dropK w root key=some (w',r')):w'.fDisk.fPages=w.fDisk.fPages:=by
 unfold dropK at h
 split at h
 ·cases h
 ·obtain ⟨⟨a,b⟩,h1,h2⟩:=Option.map_eq_some_iff.1 h
  have e:=congrArg Prod.fst h2
  simp only at e
  rw [←e,topU_disk,dropU_pages h1]
theorem leavesS_pages:∀ {bs:List (List GPair)} {w w':GWork} {out k:List GKid},leavesS w out bs=some (w',k)→w'.fDisk.fPages=w.fDisk.fPages
 |[],w,w',out,k,h=>by simp only [leavesS,Option.some.injEq,Prod.mk.injEq] at h;rw [h.1]
 |b::bs,w,w',out,k,h=>by
  rw [leavesS] at h
  split at h
  ·cases h
  ·rename_i w1 p h1
   rw [leavesS_pages h,putN_pages h1]
theorem levelS_pages:∀ {bs:List (List GKid)} {w w':GWork} {out k:List GKid},levelS w out bs=some (w',k)→w'.fDisk.fPages=w.fDisk.fPages
 |[],w,w',out,k,h=>by simp only [levelS,Option.some.injEq,Prod.mk.injEq] at h;rw [h.1]
 |b::bs,w,w',out,k,h=>by
  rw [levelS] at h
  split at h
  ·cases h
  ·rename_i w1 p h1
   rw [levelS_pages h,putN_pages h1]
theorem levelsS_pages:∀ {f:Nat} {w w':GWork} {k k':List GKid},levelsS f w k=some (w',k')→w'.fDisk.fPages=w.fDisk.fPages
 |0,w,w',k,k',h=>by simp only [levelsS,Option.some.injEq,Prod.mk.injEq] at h;rw [h.1]
 |f+1,w,w',k,k',h=>by
  rw [levelsS] at h
  split at h
  ·split at h
   ·cases h
   ·rename_i w1 k1 h1
    rw [levelsS_pages h,levelS_pages h1]
  ·simp only [Option.some.injEq,Prod.mk.injEq] at h;rw [h.1]
theorem buildS_pages {w w':GWork} {l:List GPair} {r:Int} (h:buildS w l=some (w',r)):w'.fDisk.fPages=w.fDisk.fPages:=by
 unfold buildS at h
 split at h
 ·split at h
  ·cases h
  ·rename_i w1 k1 h1
   split at h
   ·cases h
   ·rename_i w2 k2 h2
    simp only [Option.some.injEq,Prod.mk.injEq] at h
    rw [←h.1,levelsS_pages h2,leavesS_pages h1]
 ·cases h
end Go.Rx
namespace Go.Rx
open Go
def tornT (t:Key) (b:Bool):Key:=if b=true then t.take (t.length / 2) else t
def fallGo (left:List Bool) (torn:Int):Nat→List Key→List GPut→List Key
 |_,ps,[]=>ps
 |i,ps,x::l=>fallGo left torn (i+1) (if left.getD i false=true then ps.set x.fPage.toNat (tornT x.fText (decide ((i:Int)=torn))) else ps) l
def fallD (d:GDisk) (left:List Bool) (torn:Int):GDisk:=if diskOk d then ⟨fallGo left torn 0 d.fPages d.fLate,[]⟩ else d
theorem fallGo_len {left:List Bool} {torn:Int}:∀ {l:List GPut} {i:Nat} {ps:List Key},(fallGo left torn i ps l).length=ps.length
 |[],i,ps=>rfl
 |x::l,i,ps=>by rw [fallGo,fallGo_len];split<;>simp
theorem fallGo_keep {left:List Bool} {torn:Int} {q:Nat}:∀ {l:List GPut} {i:Nat} {ps:List Key},(∀x∈l,x.fPage.toNat≠q)→(fallGo left torn i ps l).getD q []=ps.getD q []
 |[],i,ps,_=>rfl
 |x::l,i,ps,h=>by
  rw [fallGo,fallGo_keep fun y hy=>h y (by simp [hy])]
  split
  ·simp only [List.getD];rw [List.getElem?_set_ne (h x (by simp))]
  ·rfl
theorem tornT_len {t:Key} {b:Bool}:(tornT t b).length≤t.length:=by
 unfold tornT
 split
 ·rw [List.length_take];omega
 ·exact Nat.le_refl _
theorem fallGo_small {left:List Bool} {torn:Int} {m:Nat}:∀ {l:List GPut} {i:Nat} {ps:List Key},(∀s∈ps,s.length≤m)→(∀q∈l,q.fText.length≤m)→∀s∈fallGo left torn i ps l,s.length≤m
 |[],i,ps,h1,_=>h1
 |x::l,i,ps,h1,h2=>by
  rw [fallGo]
  refine fallGo_small ?_ fun q hq=>h2 q (by simp [hq])
  intro s hs
  split at hs
  ·rcases List.mem_or_eq_of_mem_set hs with hs|rfl
   ·exact h1 s hs
   ·have:=h2 x (by simp);have:= @tornT_len x.fText (decide ((i:Int)=torn));omega
  ·exact h1 s hs
theorem fallD_late {d:GDisk} {left:List Bool} {torn:Int} (h:diskOk d):(fallD d left torn).fLate=[]:=by rw [fallD,if_pos h]
theorem fallD_len {d:GDisk} {left:List Bool} {torn:Int}:(fallD d left torn).fPages.length=d.fPages.length:=by
 unfold fallD;split
 ·exact fallGo_len
 ·rfl
theorem fallD_ok {d:GDisk} {left:List Bool} {torn:Int} (h:diskOk d):diskOk (fallD d left torn):=by
 obtain ⟨h1,h2,h3,h4,h5⟩:=h
 refine ⟨by rw [fallD_len];exact h1,by rw [fallD_len];exact h2,by rw [fallD_late ⟨h1,h2,h3,h4,h5⟩];simp,?_,by rw [fallD_late ⟨h1,h2,h3,h4,h5⟩];simp⟩
 rw [fallD,if_pos ⟨h1,h2,h3,h4,h5⟩]
 exact fallGo_small h4 fun q hq=>(h5 q hq).2
theorem fallD_keep {d:GDisk} {left:List Bool} {torn:Int} {q:Int} (h:diskOk d) (hq:∀x∈d.fLate,x.fPage≠q):readPage (fallD d left torn) q=readPage ⟨d.fPages,[]⟩ q:=by
 unfold readPage
 have e:isPage (fallD d left torn) q↔isPage ⟨d.fPages,[]⟩ q:=by unfold isPage;rw [fallD_len]
 by_cases hp:isPage ⟨d.fPages,[]⟩ q
 ·rw [if_pos hp,if_pos (e.2 hp),fallD_late h,lateText_nil,Option.getD_none,Option.getD_none,fallD,if_pos h]
  refine fallGo_keep fun x hx=>?_
  have h1:=hq x hx
  have h2:=(h.2.2.2.2 x hx).1.1
  have h3:=hp.1
  omega
 ·rw [if_neg hp,if_neg fun h2=>hp (e.1 h2)]
theorem fallD_one {d:GDisk} {left:List Bool} {torn p:Int} {t:Key} (h:diskOk d) (hl:d.fLate=[⟨p,t⟩]):
  readPage (fallD d left torn) p=readPage ⟨d.fPages,[]⟩ p∨∃b,readPage (fallD d left torn) p=tornT t b:=by
 have hp:isPage d p:=(h.2.2.2.2 ⟨p,t⟩ (by rw [hl];simp)).1
 unfold readPage
 have e:isPage (fallD d left torn) p:=by unfold isPage at hp ⊢;rw [fallD_len];exact hp
 have e2:isPage ⟨d.fPages,[]⟩ p:=hp
 rw [if_pos e,if_pos e2,fallD_late h,lateText_nil,Option.getD_none,Option.getD_none,fallD,if_pos h,hl]
 simp only [fallGo]
 have hlt:p.toNat<d.fPages.length:=by have:=hp.1;have:=hp.2;omega
 cases hb:left.getD 0 false
 ·exact .inl (by simp)
 ·refine .inr ⟨decide (((0:Nat):Int)=torn),?_⟩
  simp only [if_true,List.getD]
  rw [List.getElem?_set_self hlt];rfl
structure DiskInv (d:GDisk) (m:GMeta) (ps:List GPair) (pg:List Int):Prop where
 disk:diskOk d
 late:d.fLate=[]
 ok:metaOk m
 room:m.fNext≤d.fPages.length
 here:readMeta (readPage d (m.fTx%2))=some m
 other:∀m',readMeta (readPage d (1 - m.fTx%2))=some m'→m'.fTx<m.fTx
 tree:TreeAt (rdW d) m.fRoot ps pg
 part:∀q,(2≤q∧q<m.fNext)↔q∈pg∨q∈freePages m.fFrees
 apart:∀q∈pg,q∉freePages m.fFrees
theorem usable_mem {m:GMeta} {oldest q:Int}:q∈(m.fFrees.filter fun f=>decide (f.fTx≤oldest)).flatMap (·.fPages)↔∃f∈m.fFrees,f.fTx≤oldest∧q∈f.fPages:=by
 simp only [List.mem_flatMap,List.mem_filter,decide_eq_true_eq,and_assoc]
theorem usable_sub {m:GMeta} {oldest:Int}:((m.fFrees.filter fun f=>decide (f.fTx≤oldest)).flatMap (·.fPages)).Sublist (freePages m.fFrees):=by
 unfold freePages
 induction m.fFrees with
 |nil=>simp
 |cons f l ih=>
  rw [List.filter_cons]
  split
  ·rw [List.flatMap_cons,List.flatMap_cons];exact (List.Sublist.refl _).append ih
  ·rw [List.flatMap_cons];exact ih.trans (List.sublist_append_right _ _)
theorem usable_sorted {m:GMeta} {oldest:Int} (h:metaOk m):(sortI ((m.fFrees.filter fun f=>decide (f.fTx≤oldest)).flatMap (·.fPages))).Pairwise (·< ·):=by
 have hn:(freePages m.fFrees).Nodup:=(List.nodup_cons.1 h.2.2.2).2
 have h1:(sortI ((m.fFrees.filter fun f=>decide (f.fTx≤oldest)).flatMap (·.fPages))).Nodup:=sortI_perm.nodup_iff.2 (hn.sublist usable_sub)
 have h2:=sortI_sorted (l:=(m.fFrees.filter fun f=>decide (f.fTx≤oldest)).flatMap (·.fPages))
 exact (h2.and h1).imp fun h=>by omega
def oursOf (m:GMeta) (oldest q:Int):Prop:=q∈sortI ((m.fFrees.filter fun f=>decide (f.fTx≤oldest)).flatMap (·.fPages))∨m.fNext≤q
theorem workNew_txs {d:GDisk} {m:GMeta} {ps:List GPair} {pg:List Int} {oldest:Int} (h:DiskInv d m ps pg):Txs (oursOf m oldest) pg (workNew d m oldest) m.fRoot ps pg:=by
 have hu:∀q,q∈sortI ((m.fFrees.filter fun f=>decide (f.fTx≤oldest)).flatMap (·.fPages))→q∈freePages m.fFrees:=fun q hq=>usable_sub.subset (sortI_perm.mem_iff.1 hq)
 refine ⟨⟨h.disk,fun q=>?_,by simp [workNew],usable_sorted h.ok,by simp [workNew],fun q hq=>?_,by simp [workNew],by simp [workNew],h.tree.nodup,fun q hq=>?_,h.ok.1.2.1.1,h.room,?_⟩,h.tree,fun q=>?_⟩
 ·simp [oursOf,workNew]
 ·simp only [workNew,List.not_mem_nil,false_or] at hq
  exact (h.part q).2 (.inr (hu q hq))
 ·rintro (hq2|hq2)
  ·exact h.apart q hq (hu q hq2)
  ·have:=(h.part q).2 (.inl hq);omega
 ·simp only [workNew];rw [h.late];simp
 ·simp [live,workNew]
end Go.Rx
namespace Go.Rx
open Go
structure TxnInv (d0:GDisk) (m:GMeta) (oldest:Int) (pg0:List Int) (t:GTxn) (ps:List GPair) (pg:List Int):Prop where
 base:t.fBase=m
 txs:Txs (oursOf m oldest) pg0 t.fWork t.fRoot ps pg
 pages:t.fWork.fDisk.fPages=d0.fPages
theorem lateText_other {l:List GPut} {q:Int} (h:∀x∈l,x.fPage≠q):lateText l q=none:=by
 unfold lateText
 rw [List.find?_eq_none.2 fun x hx=>by simpa using h x (List.mem_reverse.1 hx)];rfl
theorem TxnInv.text {d0:GDisk} {m:GMeta} {oldest:Int} {pg0:List Int} {t:GTxn} {ps:List GPair} {pg:List Int} (h:TxnInv d0 m oldest pg0 t ps pg) (hd:d0.fLate=[]) {q:Int} (hq:¬oursOf m oldest q):
  readPage t.fWork.fDisk q=readPage d0 q:=by
 have hl:lateText t.fWork.fDisk.fLate q=none:=lateText_other fun x hx e=>hq (e▸h.txs.ok.late x hx)
 unfold readPage
 have e:isPage t.fWork.fDisk q↔isPage d0 q:=by unfold isPage;rw [h.pages]
 by_cases hp:isPage d0 q
 ·rw [if_pos hp,if_pos (e.2 hp),hl,hd,lateText_nil,h.pages]
 ·rw [if_neg hp,if_neg fun h2=>hp (e.1 h2)]
theorem ours_low {d:GDisk} {m:GMeta} {ps:List GPair} {pg:List Int} {oldest q:Int} (h:DiskInv d m ps pg) (hq:oursOf m oldest q):2≤q:=by
 rcases hq with hq|hq
 ·exact ((h.part q).2 (.inr (usable_sub.subset (sortI_perm.mem_iff.1 hq)))).1
 ·have:=h.ok.1.2.1.1;omega
def beginT (d:GDisk) (m:GMeta) (oldest:Int):GTxn:=⟨m,workNew d m oldest,m.fRoot⟩
theorem beginT_inv {d:GDisk} {m:GMeta} {ps:List GPair} {pg:List Int} {oldest:Int} (h:DiskInv d m ps pg):TxnInv d m oldest pg (beginT d m oldest) ps pg:=⟨rfl,workNew_txs h,rfl⟩
def putT (t:GTxn) (key val:Key):Option GTxn:=(putK t.fWork t.fRoot key val).map fun r=>⟨t.fBase,r.1,r.2⟩
def dropT (t:GTxn) (key:Key):Option GTxn:=(dropK t.fWork t.fRoot key).map fun r=>⟨t.fBase,r.1,r.2⟩
theorem putT_inv {d0:GDisk} {m:GMeta} {oldest:Int} {pg0:List Int} {t t':GTxn} {ps:List GPair} {pg:List Int} {key val:Key} (h:TxnInv d0 m oldest pg0 t ps pg) (hp:putT t key val=some t'):
  ∃pg',TxnInv d0 m oldest pg0 t' (mput ps key val) pg':=by
 obtain ⟨⟨w,r⟩,h1,rfl⟩:=Option.map_eq_some_iff.1 hp
 obtain ⟨pg',h2,_⟩:=putK_spec h.txs h1
 exact ⟨pg',h.base,h2,(putK_pages h1).trans h.pages⟩
theorem dropT_inv {d0:GDisk} {m:GMeta} {oldest:Int} {pg0:List Int} {t t':GTxn} {ps:List GPair} {pg:List Int} {key:Key} (h:TxnInv d0 m oldest pg0 t ps pg) (hp:dropT t key=some t'):
  (∃q∈ps,q.fKey=key)∧∃pg',TxnInv d0 m oldest pg0 t' (mdrop ps key) pg':=by
 obtain ⟨⟨w,r⟩,h1,rfl⟩:=Option.map_eq_some_iff.1 hp
 obtain ⟨h0,pg',h2,_⟩:=dropK_spec h.txs h1
 exact ⟨h0,pg',h.base,h2,(dropK_pages h1).trans h.pages⟩
def keptFrees (fresh:List Int) (l:List GFree):List GFree:=(l.map fun f=>(⟨f.fTx,f.fPages.filter fun p=> !decide (p∈fresh)⟩:GFree)).filter fun f=>decide (0<f.fPages.length)
def newPages (t:GTxn):List Int:=sortI (t.fWork.fGone++t.fWork.fUsable.filter fun p=>decide (t.fBase.fNext≤p))
def nextTx (t:GTxn):Int:=if t.fBase.fTx<100001 then t.fBase.fTx+1 else t.fBase.fTx
def nextM (t:GTxn):GMeta:=⟨nextTx t,t.fRoot,t.fWork.fNext,keptFrees t.fWork.fFresh t.fBase.fFrees++if 0<(newPages t).length then [⟨nextTx t,newPages t⟩] else []⟩
def nextMeta (t:GTxn):Option GMeta:=(metaText (nextM t)).map fun _=>nextM t
def sameT (t:GTxn):Prop:=t.fRoot=t.fBase.fRoot∧t.fWork.fGone=[]
instance {t:GTxn}:Decidable (sameT t):=by unfold sameT;infer_instance
def commitT (t:GTxn):Option (GDisk×GMeta):=
 if sameT t then some (syncD t.fWork.fDisk,t.fBase) else match metaText (nextM t) with
  |none=>none
  |some text=>(writePage (syncD t.fWork.fDisk) (nextTx t%2) text).map fun d=>(syncD d,nextM t)
theorem kept_pages {fresh:List Int} {l:List GFree} {q:Int}:q∈freePages (keptFrees fresh l)↔q∈freePages l∧q∉fresh:=by
 unfold freePages keptFrees
 simp only [List.mem_flatMap,List.mem_filter,List.mem_map,decide_eq_true_eq]
 constructor
 ·rintro ⟨f,⟨⟨g,hg,rfl⟩,_⟩,hq⟩
  simp only [List.mem_filter,Bool.not_eq_true',decide_eq_false_iff_not] at hq
  exact ⟨⟨g,hg,hq.1⟩,hq.2⟩
 ·rintro ⟨⟨g,hg,hq⟩,h2⟩
  have:q∈g.fPages.filter fun p=> !decide (p∈fresh):=by simp [List.mem_filter,hq,h2]
  exact ⟨⟨g.fTx,g.fPages.filter fun p=> !decide (p∈fresh)⟩,⟨⟨g,hg,rfl⟩,List.length_pos_of_mem this⟩,this⟩
theorem newPages_mem {t:GTxn} {q:Int}:q∈newPages t↔q∈t.fWork.fGone∨(q∈t.fWork.fUsable∧t.fBase.fNext≤q):=by
 unfold newPages
 rw [sortI_perm.mem_iff]
 simp [List.mem_filter]
theorem nextM_pages {t:GTxn} {q:Int}:q∈freePages (nextM t).fFrees↔(q∈freePages t.fBase.fFrees∧q∉t.fWork.fFresh)∨q∈newPages t:=by
 have e:freePages (nextM t).fFrees=freePages (keptFrees t.fWork.fFresh t.fBase.fFrees)++freePages (if 0<(newPages t).length then [⟨nextTx t,newPages t⟩] else []):=by simp [nextM,freePages]
 rw [e,List.mem_append,kept_pages]
 have e2:q∈freePages (if 0<(newPages t).length then [(⟨nextTx t,newPages t⟩:GFree)] else [])↔q∈newPages t:=by
  split
  ·simp [freePages]
  ·rename_i h
   have:newPages t=[]:=List.length_eq_zero_iff.1 (by omega)
   simp [freePages,this]
 rw [e2]
end Go.Rx
namespace Go.Rx
open Go
theorem TreeAt.unique {d:GDisk} {root:Int} {ps ps':List GPair} {pg pg':List Int} (h:TreeAt (rdW d) root ps pg) (h':TreeAt (rdW d) root ps' pg'):ps=ps'∧pg=pg':=by
 obtain ⟨a,b,e⟩:=treeOf_at h
 obtain ⟨a',b',e'⟩:=treeOf_at h'
 rw [e] at e'
 injection e' with e1 e2
 exact ⟨e2,e1⟩
theorem rdW_text {d d':GDisk} {q:Int} (h:readPage d' q=readPage d q):rdW d' q=rdW d q:=by unfold rdW;rw [h]
theorem mod2 {x:Int}:x%2=0∨x%2=1:=by omega
theorem DiskInv.frame {d d':GDisk} {m:GMeta} {ps:List GPair} {pg:List Int} (h:DiskInv d m ps pg) (h1:diskOk d') (h2:d'.fLate=[]) (h3:d'.fPages.length=d.fPages.length)
  (h4:∀q,q∈pg∨q=0∨q=1→readPage d' q=readPage d q):DiskInv d' m ps pg:=by
 refine ⟨h1,h2,h.ok,by rw [h3];exact h.room,?_,?_,h.tree.frame fun q hq=>rdW_text (h4 q (.inl hq)),h.part,h.apart⟩
 ·rw [h4 _ (.inr mod2)];exact h.here
 ·intro m' hm'
  rw [h4 _ (.inr (by omega))] at hm'
  exact h.other m' hm'
def Prot (m:GMeta) (pg:List Int) (x q:Int):Prop:=q∈pg∨∃f∈m.fFrees,x<f.fTx∧q∈f.fPages
theorem freePages_once {l:List GFree} (h:(freePages l).Nodup) {f g:GFree} (hf:f∈l) (hg:g∈l) {q:Int} (h1:q∈f.fPages) (h2:q∈g.fPages):f=g:=by
 induction l with
 |nil=>simp at hf
 |cons a l ih=>
  have h':(a.fPages++freePages l).Nodup:=h
  obtain ⟨_,n2,n3⟩:=List.nodup_append.1 h'
  have hin:∀ {x:GFree},x∈l→q∈x.fPages→q∈freePages l:=fun hx hq=>List.mem_flatMap.2 ⟨_,hx,hq⟩
  rcases List.mem_cons.1 hf with e1|hf
  ·rcases List.mem_cons.1 hg with e2|hg
   ·rw [e1,e2]
   ·exact absurd rfl (n3 q (e1▸h1) q (hin hg h2))
  ·rcases List.mem_cons.1 hg with e2|hg
   ·exact absurd rfl (n3 q (e2▸h2) q (hin hf h1))
   ·exact ih n2 hf hg
theorem prot_not_ours {d:GDisk} {m:GMeta} {ps:List GPair} {pg:List Int} {oldest x q:Int} (h:DiskInv d m ps pg) (hx:oldest≤x) (hq:Prot m pg x q):¬oursOf m oldest q:=by
 have hpart:=h.part q
 rcases hq with hq|⟨f,hf,h1,h2⟩
 ·rintro (ho|ho)
  ·exact h.apart q hq (usable_sub.subset (sortI_perm.mem_iff.1 ho))
  ·have:=hpart.2 (.inl hq);omega
 ·have hin:q∈freePages m.fFrees:=List.mem_flatMap.2 ⟨f,hf,h2⟩
  rintro (ho|ho)
  ·obtain ⟨g,hg,h3,h4⟩:=usable_mem.1 (sortI_perm.mem_iff.1 ho)
   obtain rfl:=freePages_once (List.nodup_cons.1 h.ok.2.2.2).2 hf hg h2 h4
   omega
  ·have:=hpart.2 (.inr hin);omega
structure Committed (d0:GDisk) (m:GMeta) (oldest:Int) (pg0:List Int) (d':GDisk) (m':GMeta) (ps:List GPair) (pg:List Int):Prop where
 inv:DiskInv d' m' ps pg
 len:d'.fPages.length=d0.fPages.length
 text:∀q,2≤q→¬oursOf m oldest q→readPage d' q=readPage d0 q
 tx:m.fTx≤m'.fTx∧m'.fTx≤m.fTx+1
 prot:∀x q,oldest≤x→x≤m.fTx→Prot m pg0 x q→Prot m' pg x q
theorem metaText_some {m:GMeta} {t:List UInt8} (h:metaText m=some t):metaOk m∧t.length≤240∧readMeta t=some m:=by
 have h2:=readMeta_iff.2 h
 obtain ⟨a,b,c⟩:=readMeta_ok h2
 exact ⟨a,c,h2⟩
theorem commit_inv {d0 d':GDisk} {m m':GMeta} {oldest:Int} {pg0 pg:List Int} {ps0 ps:List GPair} {t:GTxn} (hD:DiskInv d0 m ps0 pg0) (h:TxnInv d0 m oldest pg0 t ps pg) (hc:commitT t=some (d',m')):
  Committed d0 m oldest pg0 d' m' ps pg:=by
 have hok:=h.txs.ok
 have hno:∀q,q∈pg0∨q=0∨q=1→¬oursOf m oldest q:=by
  rintro q (hq|hq)
  ·exact prot_not_ours hD (Int.le_refl _) (.inl hq)
  ·intro ho;have:=ours_low hD ho;omega
 have htext:∀q,¬oursOf m oldest q→readPage (syncD t.fWork.fDisk) q=readPage d0 q:=fun q hq=>by rw [syncD_read,h.text hD.late hq]
 have hsok:=syncD_ok hok.disk
 have hslen:(syncD t.fWork.fDisk).fPages.length=d0.fPages.length:=by rw [syncD_pages,h.pages]
 unfold commitT at hc
 by_cases hs:sameT t
 ·rw [if_pos hs] at hc
  simp only [Option.some.injEq,Prod.mk.injEq] at hc
  obtain ⟨rfl,rfl⟩:=hc
  have hI:DiskInv (syncD t.fWork.fDisk) m ps0 pg0:=hD.frame hsok rfl hslen fun q hq=>htext q (hno q hq)
  have hT:=h.txs.tree
  rw [←syncD_rd,hs.1,h.base] at hT
  obtain ⟨rfl,rfl⟩:=hT.unique hI.tree
  rw [h.base]
  exact ⟨hI,hslen,fun q _ hq=>htext q hq,⟨by omega,by omega⟩,fun x q _ _ hq=>hq⟩
 ·rw [if_neg hs] at hc
  split at hc
  ·cases hc
  ·rename_i text hmt
   obtain ⟨d1,hd1,hd2⟩:=Option.map_eq_some_iff.1 hc
   simp only [Prod.mk.injEq] at hd2
   obtain ⟨rfl,rfl⟩:=hd2
   obtain ⟨hmok,hlen,hread⟩:=metaText_some hmt
   have htx:nextTx t=m.fTx+1:=by
    unfold nextTx;rw [h.base,if_pos (by have:=hD.ok.1.1.2;omega)]
   obtain ⟨o1,o2,_,_,_⟩:=writePage_ok hd1
   have hrd:∀q,readPage (syncD d1) q=if q=nextTx t%2 then text else readPage (syncD t.fWork.fDisk) q:=fun q=>by rw [syncD_read,readPage_write hd1]
   have hgone:∀q,q∈t.fWork.fGone→q∈pg0:=hok.goneB
   have hnow:∀q,q∈pg↔q∈t.fWork.fFresh∨(q∈pg0∧q∉t.fWork.fGone):=fun q=>(h.txs.now q).symm
   have hours:=hok.ours_iff
   have hpgm:∀q,q∈freePages (nextM t).fFrees↔(q∈freePages m.fFrees∧q∉t.fWork.fFresh)∨q∈t.fWork.fGone∨(q∈t.fWork.fUsable∧m.fNext≤q):=fun q=>by rw [nextM_pages,newPages_mem,h.base]
   have hlow:∀q∈pg,2≤q:=fun q hq=>by
    rcases (hnow q).1 hq with hq|⟨hq,_⟩
    ·exact (hok.small q (.inl hq)).1
    ·exact ((hD.part q).2 (.inl hq)).1
   refine ⟨⟨syncD_ok o1,rfl,hmok,?_,?_,?_,?_,fun q=>?_,fun q hq=>?_⟩,?_,fun q h2 hq=>?_,?_,fun x q hx hx2 hq=>?_⟩
   ·show t.fWork.fNext≤_
    have:=hok.nextL
    rw [syncD_pages,writePage_pages hd1,syncD_pages];exact this
   ·show readMeta (readPage (syncD d1) (nextTx t%2))=_
    rw [hrd,if_pos rfl,hread]
   ·intro m2 hm2
    have hm2:readMeta (readPage (syncD d1) (1 - nextTx t%2))=some m2:=hm2
    rw [hrd,if_neg (by omega),htext _ (hno _ (.inr (by omega)))] at hm2
    have e:1 - nextTx t%2=m.fTx%2:=by rw [htx];omega
    rw [e,hD.here] at hm2
    obtain rfl:=Option.some.inj hm2
    show m.fTx<nextTx t
    omega
   ·refine h.txs.tree.frame fun q hq=>rdW_text ?_
    have:=hlow q hq
    rw [hrd,if_neg (by omega),syncD_read]
   ·have hin:q∈freePages (nextM t).fFrees→2≤q∧q<(nextM t).fNext:=fun hq=>by
     obtain ⟨f,hf,hq⟩:=List.mem_flatMap.1 hq
     have:=(hmok.2.1 f hf).2.2.2 q hq
     omega
    constructor
    ·rintro ⟨h2,h3⟩
     have h3:q<t.fWork.fNext:=h3
     rw [hnow,hpgm]
     by_cases hf:q∈t.fWork.fFresh
     ·exact .inl (.inl hf)
     by_cases hq:q<m.fNext
     ·rcases (hD.part q).1 ⟨h2,hq⟩ with h4|h4
      ·by_cases hg:q∈t.fWork.fGone
       ·exact .inr (.inr (.inl hg))
       ·exact .inl (.inr ⟨h4,hg⟩)
      ·exact .inr (.inl ⟨h4,hf⟩)
     ·rcases (hours q).1 (.inr (by omega)) with h4|h4|h4
      ·exact absurd h4 hf
      ·exact .inr (.inr (.inr ⟨h4,by omega⟩))
      ·omega
    ·rintro (hq|hq)
     ·refine ⟨hlow q hq,?_⟩
      show q<t.fWork.fNext
      rcases (hnow q).1 hq with h4|⟨h4,_⟩
      ·exact (hok.small q (.inl h4)).2
      ·refine Decidable.byContradiction fun hlt=>hok.baseN q h4 ((hours q).2 (.inr (.inr (by omega))))
     ·exact hin hq
   ·rw [hpgm]
    rcases (hnow q).1 hq with h4|⟨h4,h5⟩
    ·rintro (h6|h6|h6)
     ·exact h6.2 h4
     ·exact hok.baseN q (hgone q h6) ((hours q).2 (.inl h4))
     ·exact hok.apart q h4 h6.1
    ·rintro (h6|h6|h6)
     ·exact hD.apart q h4 h6.1
     ·exact h5 h6
     ·exact hok.baseN q h4 ((hours q).2 (.inr (.inl h6.1)))
   ·rw [syncD_pages,writePage_pages hd1,hslen]
   ·rw [hrd,if_neg (by omega),htext q hq]
   ·show m.fTx≤nextTx t∧nextTx t≤m.fTx+1
    omega
   ·have hnf:q∉t.fWork.fFresh:=fun hf=>prot_not_ours hD hx hq ((hours q).2 (.inl hf))
    rcases hq with hq|⟨f,hf,h1,h2⟩
    ·by_cases hg:q∈t.fWork.fGone
     ·have hmem:q∈newPages t:=newPages_mem.2 (.inl hg)
      refine .inr ⟨⟨nextTx t,newPages t⟩,?_,by simp only;omega,hmem⟩
      simp only [nextM]
      rw [if_pos (List.length_pos_of_mem hmem)]
      simp
     ·exact .inl ((hnow q).2 (.inr ⟨hq,hg⟩))
    ·have hmem:q∈f.fPages.filter fun p=> !decide (p∈t.fWork.fFresh):=by simp [List.mem_filter,h2,hnf]
     refine .inr ⟨⟨f.fTx,f.fPages.filter fun p=> !decide (p∈t.fWork.fFresh)⟩,?_,h1,hmem⟩
     simp only [nextM,keptFrees,h.base]
     refine List.mem_append_left _ (List.mem_filter.2 ⟨List.mem_map.2 ⟨f,hf,rfl⟩,?_⟩)
     simpa using List.length_pos_of_mem hmem
end Go.Rx
namespace Go.Rx
open Go
theorem DiskInv.frame2 {d d':GDisk} {m:GMeta} {ps:List GPair} {pg:List Int} (h:DiskInv d m ps pg) (h1:diskOk d') (h2:d'.fLate=[]) (h3:d'.fPages.length=d.fPages.length)
  (h4:∀q,q∈pg∨q=m.fTx%2→readPage d' q=readPage d q) (h5:∀m',readMeta (readPage d' (1 - m.fTx%2))=some m'→m'.fTx<m.fTx):DiskInv d' m ps pg:=
 ⟨h1,h2,h.ok,by rw [h3];exact h.room,by rw [h4 _ (.inr rfl)];exact h.here,h5,h.tree.frame fun q hq=>rdW_text (h4 q (.inl hq)),h.part,h.apart⟩
theorem read_stored {d:GDisk} (h:d.fLate=[]) {q:Int}:readPage ⟨d.fPages,[]⟩ q=readPage d q:=by
 unfold readPage
 rw [h];rfl
theorem read_pages {d d':GDisk} (h:d.fPages=d'.fPages) {q:Int}:readPage ⟨d.fPages,[]⟩ q=readPage ⟨d'.fPages,[]⟩ q:=by rw [h]
theorem fall_inv {d:GDisk} {m:GMeta} {ps:List GPair} {pg:List Int} {left:List Bool} {torn:Int} (h:DiskInv d m ps pg):DiskInv (fallD d left torn) m ps pg:=
 h.frame (fallD_ok h.disk) (fallD_late h.disk) fallD_len fun q _=>by rw [fallD_keep h.disk (by rw [h.late];simp),read_stored h.late]
theorem stop_inv {d0:GDisk} {m:GMeta} {oldest:Int} {pg0 pg:List Int} {ps0 ps:List GPair} {t:GTxn} (hD:DiskInv d0 m ps0 pg0) (h:TxnInv d0 m oldest pg0 t ps pg):
  Committed d0 m oldest pg0 (syncD t.fWork.fDisk) m ps0 pg0:=by
 have hno:∀q,q∈pg0∨q=0∨q=1→¬oursOf m oldest q:=by
  rintro q (hq|hq)
  ·exact prot_not_ours hD (Int.le_refl _) (.inl hq)
  ·intro ho;have:=ours_low hD ho;omega
 have htext:∀q,¬oursOf m oldest q→readPage (syncD t.fWork.fDisk) q=readPage d0 q:=fun q hq=>by rw [syncD_read,h.text hD.late hq]
 have hslen:(syncD t.fWork.fDisk).fPages.length=d0.fPages.length:=by rw [syncD_pages,h.pages]
 exact ⟨hD.frame (syncD_ok h.txs.ok.disk) rfl hslen fun q hq=>htext q (hno q hq),hslen,fun q _ hq=>htext q hq,⟨by omega,by omega⟩,fun x q _ _ hq=>hq⟩
def cutD (t:GTxn) (stage:Int) (left:List Bool) (torn:Int):GDisk:=
 if sameT t∨metaText (nextM t)=none∨stage=0 then fallD t.fWork.fDisk left torn
 else match writePage (syncD t.fWork.fDisk) (nextTx t%2) ((metaText (nextM t)).getD []) with
  |some d=>fallD d left torn
  |none=>fallD (syncD t.fWork.fDisk) left torn
theorem cut_inv {d0:GDisk} {m:GMeta} {oldest stage torn:Int} {left:List Bool} {pg0 pg:List Int} {ps0 ps:List GPair} {t:GTxn} (hD:DiskInv d0 m ps0 pg0) (h:TxnInv d0 m oldest pg0 t ps pg):
  (cutD t stage left torn).fPages.length=d0.fPages.length∧(DiskInv (cutD t stage left torn) m ps0 pg0∨(¬sameT t∧metaText (nextM t)≠none∧DiskInv (cutD t stage left torn) (nextM t) ps pg)):=by
 have hok:=h.txs.ok
 have hno:∀q,q∈pg0∨q=0∨q=1→¬oursOf m oldest q:=by
  rintro q (hq|hq)
  ·exact prot_not_ours hD (Int.le_refl _) (.inl hq)
  ·intro ho;have:=ours_low hD ho;omega
 have htext:∀q,¬oursOf m oldest q→readPage (syncD t.fWork.fDisk) q=readPage d0 q:=fun q hq=>by rw [syncD_read,h.text hD.late hq]
 have hslen:(syncD t.fWork.fDisk).fPages.length=d0.fPages.length:=by rw [syncD_pages,h.pages]
 have hsok:=syncD_ok hok.disk
 unfold cutD
 by_cases hc:sameT t∨metaText (nextM t)=none∨stage=0
 ·rw [if_pos hc]
  refine ⟨by rw [fallD_len,h.pages],.inl (hD.frame (fallD_ok hok.disk) (fallD_late hok.disk) (by rw [fallD_len,h.pages]) fun q hq=>?_)⟩
  have hk:∀x∈t.fWork.fDisk.fLate,x.fPage≠q:=fun x hx e=>hno q hq (by rw [←e];exact hok.late x hx)
  rw [fallD_keep hok.disk hk,read_pages h.pages,read_stored hD.late]
 ·rw [if_neg hc]
  have c1:¬sameT t:=fun e=>hc (.inl e)
  have c2:metaText (nextM t)≠none:=fun e=>hc (.inr (.inl e))
  obtain ⟨text,hmt⟩:=Option.ne_none_iff_exists'.1 c2
  rw [hmt,Option.getD_some]
  obtain ⟨hmok,hlen,hread⟩:=metaText_some hmt
  have htx:nextTx t=m.fTx+1:=by
   unfold nextTx;rw [h.base,if_pos (by have:=hD.ok.1.1.2;omega)]
  have hpage:isPage (syncD t.fWork.fDisk) (nextTx t%2):=by
   have:=hsok.1
   unfold isPage;omega
  have hw:writePage (syncD t.fWork.fDisk) (nextTx t%2) text=some {syncD t.fWork.fDisk with fLate:=(syncD t.fWork.fDisk).fLate++[⟨nextTx t%2,text⟩]}:=by
   unfold writePage
   rw [if_pos ⟨hsok,hpage,hlen,by simp [syncD]⟩]
  rw [hw]
  simp only
  generalize hd1:({syncD t.fWork.fDisk with fLate:=(syncD t.fWork.fDisk).fLate++[⟨nextTx t%2,text⟩]}:GDisk)=d1 at hw ⊢
  have hlate:d1.fLate=[⟨nextTx t%2,text⟩]:=by rw [←hd1];rfl
  have hpgs:d1.fPages=(syncD t.fWork.fDisk).fPages:=by rw [←hd1]
  obtain ⟨o1,_⟩:=writePage_ok hw
  have hlen1:(fallD d1 left torn).fPages.length=d0.fPages.length:=by rw [fallD_len,hpgs,hslen]
  refine ⟨hlen1,?_⟩
  have hkeep:∀q,q≠nextTx t%2→readPage (fallD d1 left torn) q=readPage (syncD t.fWork.fDisk) q:=fun q hq=>by
   rw [fallD_keep o1 (by rw [hlate];intro x hx;simp at hx;subst hx;exact fun e=>hq e.symm),read_pages hpgs,read_stored rfl]
  have hold:(∀m',readMeta (readPage (fallD d1 left torn) (nextTx t%2))=some m'→m'.fTx<m.fTx)→DiskInv (fallD d1 left torn) m ps0 pg0:=fun hx=>by
   have e:1 - m.fTx%2=nextTx t%2:=by rw [htx];omega
   refine hD.frame2 (fallD_ok o1) (fallD_late o1) hlen1 (fun q hq=>?_) (by rw [e];exact hx)
   have hq2:q≠nextTx t%2:=by
    rcases hq with hq|hq
    ·have:=((hD.part q).2 (.inl hq)).1;omega
    ·rw [htx];omega
   rw [hkeep q hq2,htext q (hno q (hq.imp id fun e=>by omega))]
  rcases fallD_one (left:=left) (torn:=torn) o1 hlate with hr|⟨b,hr⟩
  ·left
   refine hold fun m' hm'=>?_
   rw [hr,read_pages hpgs,read_stored rfl,htext _ (hno _ (.inr (by omega)))] at hm'
   have e:nextTx t%2=1 - m.fTx%2:=by rw [htx];omega
   rw [e] at hm'
   exact hD.other m' hm'
  ·cases b with
   |true=>
    left
    refine hold fun m' hm'=>?_
    obtain ⟨_,rfl,_⟩:=readMeta_ok hread
    rw [hr,tornT,if_pos rfl,readMeta_part hmok] at hm'
    ·cases hm'
    ·have:0<(metaT (nextM t)).length:=by simp only [metaT,seal_len];omega
     omega
   |false=>
    right
    refine ⟨c1,by simp,?_⟩
    have hcm:commitT t=some (syncD d1,nextM t):=by
     unfold commitT
     rw [if_neg c1,hmt]
     simp only
     rw [hw];rfl
    have hI:=(commit_inv hD h hcm).inv
    refine hI.frame (fallD_ok o1) (fallD_late o1) (by rw [fallD_len,syncD_pages]) fun q _=>?_
    rw [syncD_read,readPage_write hw]
    by_cases hq:q=nextTx t%2
    ·rw [if_pos hq,hq,hr];rfl
    ·rw [if_neg hq,hkeep q hq]
end Go.Rx
namespace Go.Rx
open Go
structure StoreInv (s:GStore) (ps:List GPair) (pg:List Int) (next:List GPair) (view:Int→List GPair):Prop where
 disk:DiskInv s.fDisk s.fMeta ps pg
 ids:(s.fReaders.map (·.fId)).Pairwise (·< ·)
 idr:∀r∈s.fReaders,1≤r.fId∧r.fId≤9
 few:s.fReaders.length≤3
 rds:∀r∈s.fReaders,(metaOk r.fMeta∧r.fMeta.fTx≤s.fMeta.fTx)∧∃pgr,TreeAt (rdW s.fDisk) r.fMeta.fRoot (view r.fId) pgr∧∀q∈pgr,Prot s.fMeta pg r.fMeta.fTx q
 idle:s.fWriting=false→s.fTxn=GTxn.zero∧s.fFailed=false
 txn:s.fWriting=true→∃oldest pgn,oldest≤s.fMeta.fTx∧(∀r∈s.fReaders,oldest≤r.fMeta.fTx)∧TxnInv s.fDisk s.fMeta oldest pg s.fTxn next pgn
def oldestGo (n:Int) (l:List GReader):Int:=l.foldl (fun n r=>if r.fMeta.fTx<n then r.fMeta.fTx else n) n
def oldestOf (s:GStore):Int:=oldestGo s.fMeta.fTx s.fReaders
theorem oldestGo_le:∀ {l:List GReader} {n:Int},oldestGo n l≤n∧∀r∈l,oldestGo n l≤r.fMeta.fTx
 |[],n=>⟨Int.le_refl _,by simp⟩
 |r::l,n=>by
  have h:=oldestGo_le (l:=l) (n:=if r.fMeta.fTx<n then r.fMeta.fTx else n)
  have e:oldestGo n (r::l)=oldestGo (if r.fMeta.fTx<n then r.fMeta.fTx else n) l:=rfl
  rw [e]
  have h1:=h.1
  refine ⟨?_,fun x hx=>?_⟩
  ·split at h1<;>split<;>omega
  ·rcases List.mem_cons.1 hx with rfl|hx
   ·split at h1<;>split<;>omega
   ·exact h.2 x hx
def restS (s:GStore) (d:GDisk) (m:GMeta):GStore:=⟨d,m,s.fReaders,GTxn.zero,false,false⟩
theorem prot_low {d:GDisk} {m:GMeta} {ps:List GPair} {pg:List Int} {x q:Int} (h:DiskInv d m ps pg) (hq:Prot m pg x q):2≤q:=by
 rcases hq with hq|⟨f,hf,_,hq⟩
 ·exact ((h.part q).2 (.inl hq)).1
 ·exact ((h.part q).2 (.inr (List.mem_flatMap.2 ⟨f,hf,hq⟩))).1
theorem rest_inv {s:GStore} {ps ps':List GPair} {pg pg':List Int} {next next':List GPair} {view:Int→List GPair} {d':GDisk} {m':GMeta} {oldest:Int} (h:StoreInv s ps pg next view)
  (ho:∀r∈s.fReaders,oldest≤r.fMeta.fTx) (hc:Committed s.fDisk s.fMeta oldest pg d' m' ps' pg'):StoreInv (restS s d' m') ps' pg' next' view:=by
 refine ⟨hc.inv,h.ids,h.idr,h.few,fun r hr=>?_,fun _=>⟨rfl,rfl⟩,fun h=>by cases h⟩
 obtain ⟨⟨h1,h2⟩,pgr,h3,h4⟩:=h.rds r hr
 have hx:=ho r hr
 have:=hc.tx
 refine ⟨⟨h1,by simp only [restS];omega⟩,pgr,?_,fun q hq=>hc.prot _ q hx h2 (h4 q hq)⟩
 exact h3.frame fun q hq=>rdW_text (hc.text q (prot_low h.disk (h4 q hq)) (prot_not_ours h.disk hx (h4 q hq)))
def startWriteS (s:GStore):GStore:= {s with fTxn:=beginT s.fDisk s.fMeta (oldestOf s),fWriting:=true,fFailed:=false}
theorem startWrite_inv {s:GStore} {ps:List GPair} {pg:List Int} {next:List GPair} {view:Int→List GPair} (h:StoreInv s ps pg next view):StoreInv (startWriteS s) ps pg ps view:=
 ⟨h.disk,h.ids,h.idr,h.few,h.rds,fun h=>by simp [startWriteS] at h,fun _=>⟨oldestOf s,pg,oldestGo_le.1,oldestGo_le.2,beginT_inv h.disk⟩⟩
theorem writePut_inv {s:GStore} {ps:List GPair} {pg:List Int} {next:List GPair} {view:Int→List GPair} {key val:Key} {t:GTxn} (h:StoreInv s ps pg next view) (hw:s.fWriting=true) (hp:putT s.fTxn key val=some t):
  StoreInv {s with fTxn:=t} ps pg (mput next key val) view:=by
 obtain ⟨o,pgn,h1,h2,h3⟩:=h.txn hw
 obtain ⟨pg',h4⟩:=putT_inv h3 hp
 exact ⟨h.disk,h.ids,h.idr,h.few,h.rds,fun e=>(by have e:s.fWriting=false:=e;rw [hw] at e;cases e),fun _=>⟨o,pg',h1,h2,h4⟩⟩
theorem writeDrop_inv {s:GStore} {ps:List GPair} {pg:List Int} {next:List GPair} {view:Int→List GPair} {key:Key} {t:GTxn} (h:StoreInv s ps pg next view) (hw:s.fWriting=true) (hp:dropT s.fTxn key=some t):
  StoreInv {s with fTxn:=t} ps pg (mdrop next key) view:=by
 obtain ⟨o,pgn,h1,h2,h3⟩:=h.txn hw
 obtain ⟨_,pg',h4⟩:=dropT_inv h3 hp
 exact ⟨h.disk,h.ids,h.idr,h.few,h.rds,fun e=>(by have e:s.fWriting=false:=e;rw [hw] at e;cases e),fun _=>⟨o,pg',h1,h2,h4⟩⟩
theorem failed_inv {s:GStore} {ps:List GPair} {pg:List Int} {next:List GPair} {view:Int→List GPair} (h:StoreInv s ps pg next view) (hw:s.fWriting=true):StoreInv {s with fFailed:=true} ps pg next view:=
 ⟨h.disk,h.ids,h.idr,h.few,h.rds,fun e=>(by have e:s.fWriting=false:=e;rw [hw] at e;cases e),h.txn⟩
theorem stopWrite_inv {s:GStore} {ps:List GPair} {pg:List Int} {next next':List GPair} {view:Int→List GPair} (h:StoreInv s ps pg next view) (hw:s.fWriting=true):
  StoreInv (restS s (syncD s.fTxn.fWork.fDisk) s.fMeta) ps pg next' view:=by
 obtain ⟨o,pgn,h1,h2,h3⟩:=h.txn hw
 exact rest_inv h h2 (stop_inv h.disk h3)
theorem endWrite_inv {s:GStore} {ps:List GPair} {pg:List Int} {next next':List GPair} {view:Int→List GPair} {d:GDisk} {m:GMeta} (h:StoreInv s ps pg next view) (hw:s.fWriting=true) (hc:commitT s.fTxn=some (d,m)):
  ∃pg',StoreInv (restS s d m) next pg' next' view:=by
 obtain ⟨o,pgn,h1,h2,h3⟩:=h.txn hw
 exact ⟨pgn,rest_inv h h2 (commit_inv h.disk h3 hc)⟩
def openS (d:GDisk) (m:GMeta):GStore:=⟨d,m,[],GTxn.zero,false,false⟩
theorem open_inv {d:GDisk} {m:GMeta} {ps:List GPair} {pg:List Int} {next:List GPair} {view:Int→List GPair} (h:DiskInv d m ps pg):StoreInv (openS d m) ps pg next view:=
 ⟨h,by simp [openS],by simp [openS],by simp [openS],by simp [openS],fun _=>⟨rfl,rfl⟩,fun h=>by cases h⟩
def bestMeta (d:GDisk):Option GMeta:=match readMeta (readPage d 0),readMeta (readPage d 1) with
 |some a,some b=>if b.fTx≤a.fTx then some a else some b
 |some a,none=>some a
 |none,some b=>some b
 |none,none=>none
theorem bestMeta_inv {d:GDisk} {m:GMeta} {ps:List GPair} {pg:List Int} (h:DiskInv d m ps pg):bestMeta d=some m:=by
 have h1:=h.here
 have h2:=h.other
 unfold bestMeta
 rcases mod2 (x:=m.fTx) with e|e
 ·rw [e] at h1 h2
  rw [h1]
  cases hb:readMeta (readPage d 1) with
  |none=>rfl
  |some b=>have:=h2 b hb;simp only;rw [if_pos (by omega)]
 ·rw [e] at h1 h2
  rw [h1]
  cases hb:readMeta (readPage d 0) with
  |none=>rfl
  |some b=>have:=h2 b hb;simp only;rw [if_neg (by omega)]
def startReadS (s:GStore) (id:Int):GStore:= {s with fReaders:=s.fReaders.filter (fun r=>decide (r.fId<id))++⟨id,s.fMeta⟩::s.fReaders.filter fun r=>decide (id<r.fId)}
theorem startRead_inv {s:GStore} {ps:List GPair} {pg:List Int} {next:List GPair} {view:Int→List GPair} {id:Int} (h:StoreInv s ps pg next view) (h1:1≤id∧id≤9) (h2:∀r∈s.fReaders,r.fId≠id) (h3:s.fReaders.length<3):
  StoreInv (startReadS s id) ps pg next fun i=>if i=id then ps else view i:=by
 have hmem:∀r,r∈(startReadS s id).fReaders↔r=⟨id,s.fMeta⟩∨r∈s.fReaders:=fun r=>by
  simp only [startReadS,List.mem_append,List.mem_cons,List.mem_filter,decide_eq_true_eq]
  constructor
  ·rintro (h|h|h)
   ·exact .inr h.1
   ·exact .inl h
   ·exact .inr h.1
  ·rintro (h4|h4)
   ·exact .inr (.inl h4)
   ·have:=h2 r h4
    by_cases e:r.fId<id
    ·exact .inl ⟨h4,e⟩
    ·exact .inr (.inr ⟨h4,by omega⟩)
 refine ⟨h.disk,?_,fun r hr=>?_,?_,fun r hr=>?_,h.idle,fun hw=>?_⟩
 ·have hids:s.fReaders.Pairwise fun a b=>a.fId<b.fId:=List.pairwise_map.1 h.ids
  refine List.pairwise_map.2 ?_
  simp only [startReadS]
  refine List.pairwise_append.2 ⟨hids.filter _,List.pairwise_cons.2 ⟨fun b hb=>?_,hids.filter _⟩,fun a ha b hb=>?_⟩
  ·simp only [List.mem_filter,decide_eq_true_eq] at hb;exact hb.2
  ·simp only [List.mem_filter,decide_eq_true_eq,List.mem_cons] at ha hb
   rcases hb with rfl|hb
   ·exact ha.2
   ·have:=ha.2;have:=hb.2;omega
 ·rcases (hmem r).1 hr with rfl|hr
  ·exact h1
  ·exact h.idr r hr
 ·have e:∀l:List GReader,(l.filter (fun r=>decide (r.fId<id))).length+(l.filter fun r=>decide (id<r.fId)).length≤l.length:=by
   intro l
   induction l with
   |nil=>simp
   |cons r l ih=>
    simp only [List.filter_cons,List.length_cons]
    by_cases a:r.fId<id
    ·simp only [a,decide_true,if_true,show ¬id<r.fId by omega,decide_false,List.length_cons];simp;omega
    ·by_cases b:id<r.fId
     ·simp only [a,b,decide_true,if_true,decide_false,List.length_cons];simp;omega
     ·simp only [a,b,decide_false];simp;omega
  have:=e s.fReaders
  simp only [startReadS,List.length_append,List.length_cons];omega
 ·rcases (hmem r).1 hr with rfl|hr
  ·exact ⟨⟨h.disk.ok,Int.le_refl _⟩,pg,by simp only [if_true];exact h.disk.tree,fun q hq=> .inl hq⟩
  ·rw [if_neg (h2 r hr)];exact h.rds r hr
 ·obtain ⟨o,pgn,g1,g2,g3⟩:=h.txn hw
  refine ⟨o,pgn,g1,fun r hr=>?_,g3⟩
  rcases (hmem r).1 hr with rfl|hr
  ·exact g1
  ·exact g2 r hr
theorem endRead_inv {s:GStore} {ps:List GPair} {pg:List Int} {next:List GPair} {view:Int→List GPair} {l:List GReader} (h:StoreInv s ps pg next view) (hl:l.Sublist s.fReaders):StoreInv {s with fReaders:=l} ps pg next view:=by
 refine ⟨h.disk,h.ids.sublist (hl.map _),fun r hr=>h.idr r (hl.subset hr),?_,fun r hr=>h.rds r (hl.subset hr),h.idle,fun hw=>?_⟩
 ·have:=hl.length_le;have:=h.few;simp only;omega
 ·obtain ⟨o,pgn,g1,g2,g3⟩:=h.txn hw
  exact ⟨o,pgn,g1,fun r hr=>g2 r (hl.subset hr),g3⟩
end Go.Rx
namespace Go.Rx
open Go
theorem dropsP_spec {ours:Int→Prop} {B:List Int}:∀ {l:List Int} {w:GWork},WOK ours B w→(∀q∈l,live B w q)→l.Nodup→
  WOK ours B (l.foldl dropP w)∧(∀q,live B (l.foldl dropP w) q↔live B w q∧q∉l)∧(l.foldl dropP w).fDisk=w.fDisk
 |[],w,hw,_,_=>⟨hw,by simp,rfl⟩
 |p::l,w,hw,hl,hn=>by
  obtain ⟨n1,n2⟩:=List.nodup_cons.1 hn
  obtain ⟨d1,d2⟩:=dropP_spec hw (hl p (by simp))
  obtain ⟨e1,e2,e3⟩:=dropsP_spec (l:=l) d1 (fun q hq=>(d2 q).2 ⟨hl q (by simp [hq]),fun e=>n1 (e▸hq)⟩) n2
  refine ⟨e1,fun q=>?_,by rw [List.foldl_cons,e3,dropP_disk]⟩
  rw [List.foldl_cons,e2,d2,List.mem_cons,not_or]
  exact and_assoc
def packW (t:GTxn) (ps:List GPair) (pg:List Int):Option GTxn:=(buildS t.fWork ps).map fun r=>⟨t.fBase,(sortI pg).foldl dropP r.1,r.2⟩
theorem pack_inv {d0:GDisk} {m:GMeta} {oldest:Int} {pg0:List Int} {t t':GTxn} {ps:List GPair} {pg:List Int} (h:TxnInv d0 m oldest pg0 t ps pg) (hp:packW t ps pg=some t'):
  ∃pg',TxnInv d0 m oldest pg0 t' ps pg':=by
 obtain ⟨⟨w,r⟩,h1,rfl⟩:=Option.map_eq_some_iff.1 hp
 obtain ⟨_,b1,pg',b2,b3,b4,_⟩:=build_spec h.txs.ok h1
 have hmem:∀q,q∈sortI pg↔q∈pg:=fun q=>sortI_perm.mem_iff
 obtain ⟨c1,c2,c3⟩:=dropsP_spec (l:=sortI pg) b1 (fun q hq=>(b3 q).2 (.inl ((h.txs.now q).2 ((hmem q).1 hq)))) (sortI_perm.nodup_iff.2 h.txs.tree.nodup)
 refine ⟨pg',h.base,⟨c1,?_,fun q=>?_⟩,?_⟩
 ·simp only;rw [c3];exact b2
 ·simp only
  rw [c2,b3,hmem,h.txs.now]
  constructor
  ·rintro ⟨h1|h1,h2⟩
   ·exact absurd h1 h2
   ·exact h1
  ·intro h1
   exact ⟨.inr h1,fun h2=>(b4 q h1).1 ((h.txs.now q).2 h2)⟩
 ·simp only;rw [c3,buildS_pages h1];exact h.pages
end Go.Rx
