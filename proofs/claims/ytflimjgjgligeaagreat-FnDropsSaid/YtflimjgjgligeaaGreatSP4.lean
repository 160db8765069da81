/-
  Part P4: lemmas on an evaluator over plain data of the model's code, plain laws on lists and numbers, or contracts of functions of the program; each lemma names its conditions.
-/
import Derived.Test.YtflimjgjgligeaaGreatSP3

set_option linter.unusedSimpArgs false
set_option linter.unusedVariables false
namespace Go.Rx
open Go
def ZnO (m:ZX) (f:Zau):Prop:=
 (1≤f.ZF∧f.ZF≤m.ZF)∧(1≤f.Zv.length∧f.Zv.length≤40)∧f.Zv.Pairwise (·< ·)∧∀p∈f.Zv,2≤p∧p≤m.Zs - 1
instance {m:ZX} {f:Zau}:Decidable (ZnO m f):=by unfold ZnO;infer_instance
def ZiX (m:ZX):Prop:=
 (0≤m.ZF∧m.ZF≤100000)∧(2≤m.Zs∧m.Zs≤40)∧(m.Zy=0∨2≤m.Zy∧m.Zy≤m.Zs - 1)∧m.Ze.length≤20
instance {m:ZX}:Decidable (ZiX m):=by unfold ZiX;infer_instance
def Z5 (l:List Zau):List Int:=l.flatMap (·.Zv)
def Zdu (m:ZX) (l:List Zau):Prop:=
 (∀f∈l,ZnO m f)∧(l.map (·.ZF)).Pairwise (·< ·)∧(m.Zy::Z5 l).Nodup
instance {m:ZX} {l:List Zau}:Decidable (Zdu m l):=by unfold Zdu;infer_instance
def Za8 (m:ZX):Prop:=ZiX m∧Zdu m m.Ze
instance {m:ZX}:Decidable (Za8 m):=by unfold Za8;infer_instance
theorem Zop {l:List Int} {x:Int}:(l++[x]).Pairwise (·< ·)↔l.Pairwise (·< ·)∧∀y,l.getLast? =some y→y<x:=by
 rw [List.pairwise_append];constructor
 ·rintro ⟨h1,_,h3⟩;exact ⟨h1,fun y hy=>h3 y (List.mem_of_getLast? hy) x (by simp)⟩
 ·rintro ⟨h1,h2⟩;refine ⟨h1,by simp,fun a ha b hb=>?_⟩;simp at hb;subst hb;cases hl:l.getLast? with
  |none=>rw [List.getLast?_eq_none_iff] at hl;subst hl;simp at ha
  |some y=>
   obtain ⟨l',rfl⟩:=List.getLast?_eq_some_iff.1 hl;have:=h2 y hl;rcases List.mem_append.1 ha with ha|ha
   ·have:=(List.pairwise_append.1 h1).2.2 a ha y (by simp);omega
   ·simp at ha;subst ha;exact this
theorem Zjh {α:Type} {l:List α} {i:Nat} {x:α} (h:l[i]? =some x):(l.take (i+1)).getLast? =some x:=by
 rw [Z7 h];simp
theorem Zgq {l:List Zau} {f:Zau}:Z5 (l++[f])=Z5 l++f.Zv:=by simp [Z5]
def ZeF (m:ZX) (seen l:List Int):Prop:=l.Pairwise (·< ·)∧(∀p∈l,2≤p∧p≤m.Zs - 1)∧(seen++l).Nodup
theorem ZrN {m:ZX} {seen:List Int} (h:seen.Nodup):ZeF m seen []:=⟨by simp,by simp,by simpa using h⟩
theorem Ze1 {m:ZX} {seen l:List Int} {x:Int}:ZeF m seen (l++[x])↔ZeF m seen l∧(2≤x∧x≤m.Zs - 1)∧(∀y,l.getLast? =some y→y<x)∧x∉seen++l:=by
 unfold ZeF;rw [Zop,←List.append_assoc];have h:((seen++l)++[x]).Nodup↔(seen++l).Nodup∧x∉seen++l:=by
  rw [List.nodup_append];constructor
  ·rintro ⟨h1,_,h3⟩;exact ⟨h1,fun hx=>h3 x hx x (by simp) rfl⟩
  ·rintro ⟨h1,h2⟩;exact ⟨h1,by simp,fun a ha b hb=>by simp at hb;subst hb;rintro rfl;exact h2 ha⟩
 rw [h];constructor
 ·rintro ⟨⟨h1,h2⟩,h3,h4,h5⟩;exact ⟨⟨h1,fun p hp=>h3 p (by simp [hp]),h4⟩,h3 x (by simp),h2,h5⟩
 ·rintro ⟨⟨h1,h2,h3⟩,h4,h5,h6⟩;refine ⟨⟨h1,h5⟩,fun p hp=>?_,h3,h6⟩;rcases List.mem_append.1 hp with hp|hp
  ·exact h2 p hp
  ·simp at hp;subst hp;exact h4
theorem ZoW {m:ZX} {seen l:List Int} {i:Nat} (h:ZeF m seen l):ZeF m seen (l.take i):=
 ⟨h.1.sublist (List.take_sublist i l),fun p hp=>h.2.1 p (List.mem_of_mem_take hp),h.2.2.sublist ((List.take_sublist i l).append_left seen)⟩
theorem Ziw {m:ZX} {l:List Zau} {f:Zau}:Zdu m (l++[f])↔Zdu m l∧(1≤f.ZF∧f.ZF≤m.ZF)∧(∀g,l.getLast? =some g→g.ZF<f.ZF)∧(1≤f.Zv.length∧f.Zv.length≤40)∧ZeF m (m.Zy::Z5 l) f.Zv:=by
 unfold Zdu ZeF;rw [List.map_append,List.map_singleton,Zop,Zgq];have e1:(∀y,(l.map (·.ZF)).getLast? =some y→y<f.ZF)↔∀g,l.getLast? =some g→g.ZF<f.ZF:=by
  rw [List.getLast?_map];cases l.getLast? <;>simp
 rw [e1];constructor
 ·rintro ⟨h1,⟨h2,h3⟩,h4⟩;have hf:=h1 f (by simp);have h4':(m.Zy::Z5 l).Nodup:=h4.sublist (by simp);exact ⟨⟨fun g hg=>h1 g (by simp [hg]),h2,h4'⟩,hf.1,h3,hf.2.1,hf.2.2.1,hf.2.2.2,h4⟩
 ·rintro ⟨⟨h1,h2,h3⟩,h4,h5,h6,h7,h8,h9⟩;refine ⟨fun g hg=>?_,⟨h2,h5⟩,h9⟩;rcases List.mem_append.1 hg with hg|hg
  ·exact h1 g hg
  ·simp at hg;subst hg;exact ⟨h4,h6,h7,h8⟩
theorem ZnM {m:ZX} {l:List Zau} {i:Nat} (h:Zdu m l):Zdu m (l.take i):=by
 refine ⟨fun f hf=>h.1 f (List.mem_of_mem_take hf),?_,?_⟩
 ·rw [List.map_take];exact h.2.1.sublist (List.take_sublist i _)
 ·refine h.2.2.sublist (List.Sublist.cons_cons _ ?_);have e:l.flatMap (·.Zv)=(l.take i).flatMap (·.Zv)++(l.drop i).flatMap (·.Zv):=by rw [←List.flatMap_append,List.take_append_drop]
  unfold Z5;rw [e];exact List.sublist_append_left _ _
theorem Zpn {m:ZX}:Zdu m []:=⟨by simp,by simp,by simp [Z5]⟩
end Go.Rx
namespace Go.Rx
theorem Ze8 {m:ZX}:∀ {l:List Zau},(∀f∈l,ZnO m f)→(Z5 l).length≤40*l.length
 |[],_=>by simp [Z5]
 |f::l,h=>by
  have h1:=(h f (by simp)).2.1.2;have h2:=Ze8 (l:=l) fun g hg=>h g (by simp [hg])
  unfold Z5 at h2 ⊢;simp only [List.flatMap_cons,List.length_append,List.length_cons];omega
theorem Zif {α:Type} {l:List α} {j:Nat} {q x:α} (h:l[j]? =some q) (hx:(l.take (j+1)).getLast? =some x):x=q:=by
 rw [Zjh h] at hx;exact (Option.some.inj hx).symm
end Go.Rx
namespace Go.Rx
open Go
def nB (x:Int):List UInt8:=varB x.toNat
def Zhr (f:Zau):List UInt8:=nB f.ZF++varB f.Zv.length++f.Zv.flatMap nB
def ZdD (m:ZX):List UInt8:=nB m.ZF++nB m.Zy++nB m.Zs++varB m.Ze.length++m.Ze.flatMap Zhr
def Zds (m:ZX):List UInt8:=Zgw (ZdD m)
def Zav (m:ZX):Option (List UInt8):=if Za8 m∧(Zds m).length≤240 then some (Zds m) else none
def ZcR (t:List UInt8):Nat→List Int→Nat×Bool→List Int×(Nat×Bool)
 |0,out,r=>(out,r)
 |n+1,out,r=>if r.2=true then (out,r) else ZcR t n (out++[((rdV t 1000000000 r).1:Int)]) (rdV t 1000000000 r).2
def Zhq (t : List UInt8) (r : Nat × Bool) : Zau × (Nat × Bool) :=
  (⟨((rdV t 1000000000 r).1 : Int), (ZcR t (min (rdV t 1000000000 (rdV t 1000000000 r).2).1 50) [] (rdV t 1000000000 (rdV t 1000000000 r).2).2).1⟩,
   (ZcR t (min (rdV t 1000000000 (rdV t 1000000000 r).2).1 50) [] (rdV t 1000000000 (rdV t 1000000000 r).2).2).2)
def Zdn (t:List UInt8):Nat→List Zau→Nat×Bool→List Zau×(Nat×Bool)
 |0,out,r=>(out,r)
 |n+1,out,r=>if r.2=true then (out,r) else Zdn t n (out++[(Zhq t r).1]) (Zhq t r).2
def Zgm (t:List UInt8) (b:Bool):ZX×Bool:=
 let a:=rdV t 1000000000 (0,b)
 let c:=rdV t 1000000000 a.2
 let d:=rdV t 1000000000 c.2
 let e:=rdV t 1000000000 d.2
 (⟨a.1,c.1,d.1,(Zdn t (min e.1 30) [] e.2).1⟩,(Zdn t (min e.1 30) [] e.2).2.2)
def ZaL (t:List UInt8):Option ZX:=match ZbE t with
 |none=>none
 |some s=>if (Zgm s false).2=false∧Zav (Zgm s false).1=some t then some (Zgm s false).1 else none
theorem Ze0 {t rest:List UInt8} {n:Nat} {r:Nat×Bool} (hr:r.1≤t.length) (hs:sfx t r=some (varB n++rest)) (hn:n≤1000000000):
  (rdV t 1000000000 r).1=n∧(rdV t 1000000000 r).2.1≤t.length∧sfx t (rdV t 1000000000 r).2=some rest:=by
 have h:=Zjr (most:=1000000000) hr;rw [hs] at h;simp only at h;rw [show rv (varB n++rest)=some (n,rest) from ZdW.2 ⟨hn,rfl⟩] at h;simp only at h;rw [if_pos hn] at h;exact ⟨h.1,Zm6 hr,h.2⟩
theorem Zt2 {t l:List UInt8} {r:Nat×Bool} (h:sfx t r=some l):r.2=false:=by
 cases hb:r.2
 ·rfl
 ·rw [ZcE.2 hb] at h;cases h
theorem Zna {t rest:List UInt8}:∀ {ps out:List Int} {r:Nat×Bool},r.1≤t.length→(∀p∈ps,0≤p∧p≤1000000000)→sfx t r=some (ps.flatMap nB++rest)→
  (ZcR t ps.length out r).1=out++ps∧(ZcR t ps.length out r).2.1≤t.length∧sfx t (ZcR t ps.length out r).2=some rest
 |[],out,r,hr,_,hs=>by simp [ZcR,hr] at hs ⊢;exact hs
 |p::ps,out,r,hr,hp,hs=>by
  have hb:=Zt2 hs;have hp0:=hp p (by simp);rw [List.flatMap_cons,List.append_assoc] at hs;obtain ⟨h1,h2,h3⟩:=Ze0 hr hs (by omega);have h:=Zna (out:=out++[p]) h2 (fun q hq=>hp q (by simp [hq])) h3;have e:(((rdV t 1000000000 r).1:Nat):Int)=p:=by omega
  simp only [List.length_cons,ZcR];rw [if_neg (by simp [hb]),e];simpa using h
theorem Zxe {t rest:List UInt8} {f:Zau} {r:Nat×Bool} (hr:r.1≤t.length) (h0:0≤f.ZF∧f.ZF≤1000000000) (h1:f.Zv.length≤50) (hp:∀p∈f.Zv,0≤p∧p≤1000000000) (hs:sfx t r=some (Zhr f++rest)):
  (Zhq t r).1=f∧(Zhq t r).2.1≤t.length∧sfx t (Zhq t r).2=some rest:=by
 unfold Zhr at hs;rw [List.append_assoc,List.append_assoc] at hs;obtain ⟨a1,a2,a3⟩:=Ze0 hr hs (by omega);obtain ⟨b1,b2,b3⟩:=Ze0 a2 a3 (by omega);obtain ⟨c1,c2,c3⟩:=Zna (out:=[]) b2 hp b3;unfold Zhq;rw [a1,b1,Nat.min_eq_left h1];refine ⟨?_,c2,c3⟩;rw [c1,Int.toNat_of_nonneg h0.1];rfl
theorem ZnN {t rest:List UInt8}:∀ {fs out:List Zau} {r:Nat×Bool},r.1≤t.length→(∀f∈fs,(0≤f.ZF∧f.ZF≤1000000000)∧f.Zv.length≤50∧∀p∈f.Zv,0≤p∧p≤1000000000)→sfx t r=some (fs.flatMap Zhr++rest)→
  (Zdn t fs.length out r).1=out++fs∧sfx t (Zdn t fs.length out r).2=some rest
 |[],out,r,hr,_,hs=>by simp [Zdn] at hs ⊢;exact hs
 |f::fs,out,r,hr,hp,hs=>by
  have hb:=Zt2 hs;obtain ⟨p1,p2,p3⟩:=hp f (by simp);rw [List.flatMap_cons,List.append_assoc] at hs;obtain ⟨h1,h2,h3⟩:=Zxe hr p1 p2 p3 hs;have h:=ZnN (out:=out++[f]) h2 (fun q hq=>hp q (by simp [hq])) h3;simp only [List.length_cons,Zdn];rw [if_neg (by simp [hb]),h1];simpa using h
theorem ZjH {m:ZX} (h:Za8 m):(ZdD m).length≤20000:=by
 obtain ⟨⟨h1,h2,h3,h4⟩,h5,_,_⟩:=h;have hv:∀x:Int,0≤x→x≤100000→(nB x).length≤9:=fun x a b=>ZdR (by omega)
 have hpg:∀ps:List Int,(∀p∈ps,0≤p∧p≤100000)→(ps.flatMap nB).length≤9*ps.length:=by
  intro ps;induction ps with
  |nil=>simp
  |cons p ps ih=>
   intro hp;have a:=ih fun q hq=>hp q (by simp [hq])
   have b:=hv p (hp p (by simp)).1 (hp p (by simp)).2;simp only [List.flatMap_cons,List.length_append,List.length_cons];omega
 have hfr:∀fs:List Zau,(∀f∈fs,ZnO m f)→(fs.flatMap Zhr).length≤400*fs.length:=by
  intro fs;induction fs with
  |nil=>simp
  |cons f fs ih=>
   intro hf;have a:=ih fun q hq=>hf q (by simp [hq])
   obtain ⟨f1,f2,f3,f4⟩:=hf f (by simp);have b:=hpg f.Zv fun p hp=>by have:=f4 p hp;omega
   have c:=hv f.ZF (by omega) (by omega);have d:(varB f.Zv.length).length≤9:=ZdR (by omega);simp only [List.flatMap_cons,List.length_append,List.length_cons,Zhr];omega
 have a:=hfr _ h5;have b:=hv m.ZF (by omega) (by omega);have c:=hv m.Zy (by omega) (by omega);have d:=hv m.Zs (by omega) (by omega);have e:(varB m.Ze.length).length≤9:=ZdR (by omega);simp only [ZdD,List.length_append];omega
theorem ZhT {m:ZX} {rest:List UInt8} (h:Za8 m):Zgm (ZdD m++rest) false=(m,false):=by
 obtain ⟨⟨h1,h2,h3,h4⟩,h5,_,_⟩:=h;have hs:sfx (ZdD m++rest) (0,false)=some (ZdD m++rest):=by simp [sfx]
 have hs2:ZdD m++rest=varB m.ZF.toNat++(varB m.Zy.toNat++(varB m.Zs.toNat++(varB m.Ze.length++(m.Ze.flatMap Zhr++rest)))):=by simp [ZdD,nB]
 have hs':sfx (ZdD m++rest) (0,false)=some (varB m.ZF.toNat++(varB m.Zy.toNat++(varB m.Zs.toNat++(varB m.Ze.length++(m.Ze.flatMap Zhr++rest))))):=hs.trans (congrArg some hs2);obtain ⟨a1,a2,a3⟩:=Ze0 (by simp) hs' (by omega);obtain ⟨b1,b2,b3⟩:=Ze0 a2 a3 (by omega);obtain ⟨c1,c2,c3⟩:=Ze0 b2 b3 (by omega);obtain ⟨d1,d2,d3⟩:=Ze0 c2 c3 (by omega);obtain ⟨e1,e2⟩:=ZnN (out:=[]) d2 (fun f hf=>by
  obtain ⟨f1,f2,f3,f4⟩:=h5 f hf;exact ⟨by omega,by omega,fun p hp=>by have:=f4 p hp;omega⟩) d3
 unfold Zgm;simp only;rw [a1,b1,c1,d1,Nat.min_eq_left (by omega),e1,Zt2 e2,Int.toNat_of_nonneg (by omega),Int.toNat_of_nonneg (by omega),Int.toNat_of_nonneg (by omega)];rfl
theorem Zui {m:ZX} (h:Za8 m):Zgm (ZdD m) false=(m,false):=by
 have:=ZhT (rest:=[]) h
 rwa [List.append_nil] at this
theorem ZuB {m m':ZX} {a b:List UInt8} (h:Za8 m) (h':Za8 m') (he:ZdD m++a=ZdD m'++b):m=m':=by
 have h1:=ZhT (rest:=a) h;rw [he,ZhT h'] at h1;exact (congrArg Prod.fst h1).symm
theorem Zfo {t:List UInt8} {m:ZX}:ZaL t=some m↔Zav m=some t:=by
 constructor
 ·intro h;unfold ZaL at h;split at h
  ·cases h
  ·split at h
   ·rename_i h2;obtain rfl:=Option.some.inj h;exact h2.2
   ·cases h
 ·intro h;have h0:=h;unfold Zav at h;split at h
  ·rename_i hm;obtain rfl:=Option.some.inj h;have hu:ZbE (Zds m)=some (ZdD m):=ZcW.2 ⟨ZjH hm.1,rfl⟩;rw [ZaL,hu];simp only;rw [Zui hm.1];simp only;rw [if_pos ⟨by trivial,h0⟩]
  ·cases h
theorem Zgy {t:List UInt8} {m:ZX} (h:ZaL t=some m):Za8 m∧t=Zds m∧t.length≤240:=by
 have h:=Zfo.1 h;unfold Zav at h;split at h
 ·rename_i hm;obtain rfl:=Option.some.inj h;exact ⟨hm.1,rfl,hm.2⟩
 ·cases h
theorem Zl7 {m:ZX} {n:Nat} (h:Za8 m) (hn:n<(Zds m).length):ZaL ((Zds m).take n)=none:=by
 cases hr:ZaL ((Zds m).take n) with
 |none=>rfl
 |some m'=>
  obtain ⟨h1,h2,h3⟩:=Zgy hr;have e1:Zds m=Zds m'++(Zds m).drop n:=by rw [←h2,List.take_append_drop]
  have e2:ZdD m++four (ZlZ (ZdD m))=ZdD m'++(four (ZlZ (ZdD m'))++(Zds m).drop n):=by
   rw [←List.append_assoc];exact e1
  obtain rfl:=ZuB h h1 e2;have:=congrArg List.length h2;rw [List.length_take] at this;omega
theorem Zm5:ZaL []=none:=by
 have:ZbE []=none:=by rw [ZbE,if_neg (by simp)]
 rw [ZaL,this]
end Go.Rx
namespace Go.Rx
open Go
theorem ZdQ {d d':ZT} {p:Int} {t:List UInt8} (h:Zak d p t=some d'):d'.Zv=d.Zv:=by
 unfold Zak at h;split at h
 ·obtain rfl:=Option.some.inj h;rfl
 ·cases h
theorem Zsj {w:ZS}:(Zcu w).1.Zc=w.Zc:=by
 unfold Zcu;split
 ·rfl
 ·split<;>rfl
theorem ZdK {w w':ZS} {n:Z1} {p:Int} (h:putN w n=some (w',p)):w'.Zc.Zv=w.Zc.Zv:=by
 unfold putN at h;split at h
 ·split at h
  ·cases h
  ·split at h
   ·cases h
   ·rename_i d hd;simp only [Option.some.injEq,Prod.mk.injEq] at h;obtain ⟨rfl,rfl⟩:=h;have:=ZdQ hd;rw [Zsj] at this;exact this
 ·cases h
theorem Zk1:∀ {ns:List Z1} {w w':ZS} {ks:List (Key×Int)},putS w ns=some (w',ks)→w'.Zc.Zv=w.Zc.Zv
 |[],w,w',ks,h=>by simp only [putS,Option.some.injEq,Prod.mk.injEq] at h;rw [h.1]
 |n::ns,w,w',ks,h=>by
  rw [putS] at h;split at h
  ·cases h
  ·rename_i w1 p h1;split at h
   ·cases h
   ·rename_i w2 ks2 h2;simp only [Option.some.injEq,Prod.mk.injEq] at h;obtain ⟨rfl,rfl⟩:=h;rw [Zk1 h2,ZdK h1]
theorem Zko {ns:List Z1} {w w':ZS} {old:Int} {ks:List (Key×Int)} (h:ZdH w ns old=some (w',ks)):w'.Zc.Zv=w.Zc.Zv:=by
 unfold ZdH at h;split at h
 ·cases h
 ·rename_i w1 ks1 h1;simp only [Option.some.injEq,Prod.mk.injEq] at h;obtain ⟨rfl,rfl⟩:=h;rw [ZbI,Zk1 h1]
theorem ZhR:∀ {f:Nat} {w w':ZS} {page:Int} {key val:Key} {kk:List (Key×Int)} {dp:Nat},putU f w page key val=some (w',kk,dp)→w'.Zc.Zv=w.Zc.Zv
 |0,w,w',page,key,val,kk,dp,h=>by cases h
 |f+1,w,w',page,key,val,kk,dp,h=>by
  rw [putU] at h;split at h
  ·cases h
  ·split at h
   ·obtain ⟨⟨a,b⟩,h1,h2⟩:=Option.map_eq_some_iff.1 h;simp only [Prod.mk.injEq] at h2;obtain ⟨rfl,_⟩:=h2;exact Zko h1
   ·split at h
    ·cases h
    ·rename_i w1 kk1 dp1 hu;obtain ⟨⟨a,b⟩,h1,h2⟩:=Option.map_eq_some_iff.1 h;simp only [Prod.mk.injEq] at h2;obtain ⟨rfl,_⟩:=h2;rw [Zko h1,ZhR hu]
theorem ZrL {w w':ZS} {root r':Int} {key val:Key} (h:putK w root key val=some (w',r')):w'.Zc.Zv=w.Zc.Zv:=by
 unfold putK at h;split at h
 ·cases h
 ·split at h
  ·exact ZdK h
  ·split at h
   ·cases h
   ·rename_i w1 kk dp hu;split at h
    ·cases h
    ·simp only [Option.some.injEq,Prod.mk.injEq] at h;obtain ⟨rfl,_⟩:=h;exact ZhR hu
    ·split at h
     ·cases h
     ·rw [ZdK h,ZhR hu]
theorem Zlv {w w':ZS} {n:Z1} {page p:Int} (h:finU w n page=some (w',p)):w'.Zc.Zv=w.Zc.Zv:=by
 unfold finU at h;split at h
 ·simp only [Option.some.injEq,Prod.mk.injEq] at h;obtain ⟨rfl,_⟩:=h;rw [ZbI]
 ·split at h
  ·cases h
  ·rename_i w1 p1 h1;simp only [Option.some.injEq,Prod.mk.injEq] at h;obtain ⟨rfl,_⟩:=h;rw [ZbI,ZdK h1]
theorem Zka:∀ {f:Nat} {w w':ZS} {page p:Int} {key:Key},Zhw f w page key=some (w',p)→w'.Zc.Zv=w.Zc.Zv
 |0,w,w',page,p,key,h=>by cases h
 |f+1,w,w',page,p,key,h=>by
  rw [Zhw] at h;split at h
  ·cases h
  ·split at h
   ·cases h
   ·split at h
    ·split at h
     ·exact Zlv h
     ·cases h
    ·split at h
     ·cases h
     ·rename_i w1 k hu;rw [Zlv h,Zka hu]
theorem ZmK:∀ {f:Nat} {w:ZS} {top:Int},(topU f w top).1.Zc=w.Zc
 |0,w,top=>rfl
 |f+1,w,top=>by
  rw [topU];split
  ·rfl
  ·split
   ·rfl
   ·split
    ·rfl
    ·rw [ZmK,ZbI]
theorem Zpy {w w':ZS} {root r':Int} {key:Key} (h:Zn6 w root key=some (w',r')):w'.Zc.Zv=w.Zc.Zv:=by
 unfold Zn6 at h;split at h
 ·cases h
 ·obtain ⟨⟨a,b⟩,h1,h2⟩:=Option.map_eq_some_iff.1 h;have e:=congrArg Prod.fst h2;simp only at e;rw [←e,ZmK,Zka h1]
theorem Zhg:∀ {bs:List (List ZR)} {w w':ZS} {out k:List GKid},ZbH w out bs=some (w',k)→w'.Zc.Zv=w.Zc.Zv
 |[],w,w',out,k,h=>by simp only [ZbH,Option.some.injEq,Prod.mk.injEq] at h;rw [h.1]
 |b::bs,w,w',out,k,h=>by
  rw [ZbH] at h;split at h
  ·cases h
  ·rename_i w1 p h1;rw [Zhg h,ZdK h1]
theorem Zio:∀ {bs:List (List GKid)} {w w':ZS} {out k:List GKid},Zcz w out bs=some (w',k)→w'.Zc.Zv=w.Zc.Zv
 |[],w,w',out,k,h=>by simp only [Zcz,Option.some.injEq,Prod.mk.injEq] at h;rw [h.1]
 |b::bs,w,w',out,k,h=>by
  rw [Zcz] at h;split at h
  ·cases h
  ·rename_i w1 p h1;rw [Zio h,ZdK h1]
theorem Zhf:∀ {f:Nat} {w w':ZS} {k k':List GKid},Zc2 f w k=some (w',k')→w'.Zc.Zv=w.Zc.Zv
 |0,w,w',k,k',h=>by simp only [Zc2,Option.some.injEq,Prod.mk.injEq] at h;rw [h.1]
 |f+1,w,w',k,k',h=>by
  rw [Zc2] at h;split at h
  ·split at h
   ·cases h
   ·rename_i w1 k1 h1;rw [Zhf h,Zio h1]
  ·simp only [Option.some.injEq,Prod.mk.injEq] at h;rw [h.1]
theorem Zol {w w':ZS} {l:List ZR} {r:Int} (h:ZhC w l=some (w',r)):w'.Zc.Zv=w.Zc.Zv:=by
 unfold ZhC at h;split at h
 ·split at h
  ·cases h
  ·rename_i w1 k1 h1;split at h
   ·cases h
   ·rename_i w2 k2 h2;simp only [Option.some.injEq,Prod.mk.injEq] at h;rw [←h.1,Zhf h2,Zhg h1]
 ·cases h
end Go.Rx
namespace Go.Rx
open Go
def Zjg (t:Key) (b:Bool):Key:=if b=true then t.take (t.length / 2) else t
def Zdx (left:List Bool) (torn:Int):Nat→List Key→List GPut→List Key
 |_,ps,[]=>ps
 |i,ps,x::l=>Zdx left torn (i+1) (if left.getD i false=true then ps.set x.Zu.toNat (Zjg x.ZC (decide ((i:Int)=torn))) else ps) l
def Zb9 (d:ZT) (left:List Bool) (torn:Int):ZT:=if Za5 d then ⟨Zdx left torn 0 d.Zv d.Zm,[]⟩ else d
theorem Zh0 {left:List Bool} {torn:Int}:∀ {l:List GPut} {i:Nat} {ps:List Key},(Zdx left torn i ps l).length=ps.length
 |[],i,ps=>rfl
 |x::l,i,ps=>by rw [Zdx,Zh0];split<;>simp
theorem Zj7 {left:List Bool} {torn:Int} {q:Nat}:∀ {l:List GPut} {i:Nat} {ps:List Key},(∀x∈l,x.Zu.toNat≠q)→(Zdx left torn i ps l).getD q []=ps.getD q []
 |[],i,ps,_=>rfl
 |x::l,i,ps,h=>by
  rw [Zdx,Zj7 fun y hy=>h y (by simp [hy])];split
  ·simp only [List.getD];rw [List.getElem?_set_ne (h x (by simp))]
  ·rfl
theorem ZtO {t:Key} {b:Bool}:(Zjg t b).length≤t.length:=by
 unfold Zjg;split
 ·rw [List.length_take];omega
 ·exact Nat.le_refl _
theorem Ziz {left:List Bool} {torn:Int} {m:Nat}:∀ {l:List GPut} {i:Nat} {ps:List Key},(∀s∈ps,s.length≤m)→(∀q∈l,q.ZC.length≤m)→∀s∈Zdx left torn i ps l,s.length≤m
 |[],i,ps,h1,_=>h1
 |x::l,i,ps,h1,h2=>by
  rw [Zdx];refine Ziz ?_ fun q hq=>h2 q (by simp [hq])
  intro s hs;split at hs
  ·rcases List.mem_or_eq_of_mem_set hs with hs|rfl
   ·exact h1 s hs
   ·have:=h2 x (by simp);have:= @ZtO x.ZC (decide ((i:Int)=torn));omega
  ·exact h1 s hs
theorem ZcA {d:ZT} {left:List Bool} {torn:Int} (h:Za5 d):(Zb9 d left torn).Zm=[]:=by rw [Zb9,if_pos h]
theorem ZcK {d:ZT} {left:List Bool} {torn:Int}:(Zb9 d left torn).Zv.length=d.Zv.length:=by
 unfold Zb9;split
 ·exact Zh0
 ·rfl
theorem Zi5 {d:ZT} {left:List Bool} {torn:Int} (h:Za5 d):Za5 (Zb9 d left torn):=by
 obtain ⟨h1,h2,h3,h4,h5⟩:=h;refine ⟨by rw [ZcK];exact h1,by rw [ZcK];exact h2,by rw [ZcA ⟨h1,h2,h3,h4,h5⟩];simp,?_,by rw [ZcA ⟨h1,h2,h3,h4,h5⟩];simp⟩;rw [Zb9,if_pos ⟨h1,h2,h3,h4,h5⟩];exact Ziz h4 fun q hq=>(h5 q hq).2
theorem Zh1 {d:ZT} {left:List Bool} {torn:Int} {q:Int} (h:Za5 d) (hq:∀x∈d.Zm,x.Zu≠q):ZU (Zb9 d left torn) q=ZU ⟨d.Zv,[]⟩ q:=by
 unfold ZU;have e:Za9 (Zb9 d left torn) q↔Za9 ⟨d.Zv,[]⟩ q:=by unfold Za9;rw [ZcK]
 by_cases hp:Za9 ⟨d.Zv,[]⟩ q
 ·rw [if_pos hp,if_pos (e.2 hp),ZcA h,Zdi,Option.getD_none,Option.getD_none,Zb9,if_pos h];refine Zj7 fun x hx=>?_;have h1:=hq x hx;have h2:=(h.2.2.2.2 x hx).1.1;have h3:=hp.1;omega
 ·rw [if_neg hp,if_neg fun h2=>hp (e.1 h2)]
theorem Zvo {d:ZT} {left:List Bool} {torn p:Int} {t:Key} (h:Za5 d) (hl:d.Zm=[⟨p,t⟩]):
  ZU (Zb9 d left torn) p=ZU ⟨d.Zv,[]⟩ p∨∃b,ZU (Zb9 d left torn) p=Zjg t b:=by
 have hp:Za9 d p:=(h.2.2.2.2 ⟨p,t⟩ (by rw [hl];simp)).1;unfold ZU;have e:Za9 (Zb9 d left torn) p:=by unfold Za9 at hp ⊢;rw [ZcK];exact hp
 have e2:Za9 ⟨d.Zv,[]⟩ p:=hp;rw [if_pos e,if_pos e2,ZcA h,Zdi,Option.getD_none,Option.getD_none,Zb9,if_pos h,hl];simp only [Zdx];have hlt:p.toNat<d.Zv.length:=by have:=hp.1;have:=hp.2;omega
 cases hb:left.getD 0 false
 ·exact .inl (by simp)
 ·refine .inr ⟨decide (((0:Nat):Int)=torn),?_⟩;simp only [if_true,List.getD];rw [List.getElem?_set_self hlt];rfl
structure ZaX (d:ZT) (m:ZX) (ps:List ZR) (pg:List Int):Prop where
 disk:Za5 d
 late:d.Zm=[]
 ok:Za8 m
 room:m.Zs≤d.Zv.length
 here:ZaL (ZU d (m.ZF%2))=some m
 other:∀m',ZaL (ZU d (1 - m.ZF%2))=some m'→m'.ZF<m.ZF
 tree:Zdp (rdW d) m.Zy ps pg
 part:∀q,(2≤q∧q<m.Zs)↔q∈pg∨q∈Z5 m.Ze
 apart:∀q∈pg,q∉Z5 m.Ze
theorem Zrx {m:ZX} {oldest q:Int}:q∈(m.Ze.filter fun f=>decide (f.ZF≤oldest)).flatMap (·.Zv)↔∃f∈m.Ze,f.ZF≤oldest∧q∈f.Zv:=by
 simp only [List.mem_flatMap,List.mem_filter,decide_eq_true_eq,and_assoc]
theorem ZfK {m:ZX} {oldest:Int}:((m.Ze.filter fun f=>decide (f.ZF≤oldest)).flatMap (·.Zv)).Sublist (Z5 m.Ze):=by
 unfold Z5;induction m.Ze with
 |nil=>simp
 |cons f l ih=>
  rw [List.filter_cons];split
  ·rw [List.flatMap_cons,List.flatMap_cons];exact (List.Sublist.refl _).append ih
  ·rw [List.flatMap_cons];exact ih.trans (List.sublist_append_right _ _)
theorem ZlU {m:ZX} {oldest:Int} (h:Za8 m):(ZaP ((m.Ze.filter fun f=>decide (f.ZF≤oldest)).flatMap (·.Zv))).Pairwise (·< ·):=by
 have hn:(Z5 m.Ze).Nodup:=(List.nodup_cons.1 h.2.2.2).2;have h1:(ZaP ((m.Ze.filter fun f=>decide (f.ZF≤oldest)).flatMap (·.Zv))).Nodup:=Zbs.nodup_iff.2 (hn.sublist ZfK);have h2:=Zfm (l:=(m.Ze.filter fun f=>decide (f.ZF≤oldest)).flatMap (·.Zv));exact (h2.and h1).imp fun h=>by omega
def Zef (m:ZX) (oldest q:Int):Prop:=q∈ZaP ((m.Ze.filter fun f=>decide (f.ZF≤oldest)).flatMap (·.Zv))∨m.Zs≤q
theorem ZoC {d:ZT} {m:ZX} {ps:List ZR} {pg:List Int} {oldest:Int} (h:ZaX d m ps pg):Txs (Zef m oldest) pg (Zdq d m oldest) m.Zy ps pg:=by
 have hu:∀q,q∈ZaP ((m.Ze.filter fun f=>decide (f.ZF≤oldest)).flatMap (·.Zv))→q∈Z5 m.Ze:=fun q hq=>ZfK.subset (Zbs.mem_iff.1 hq)
 refine ⟨⟨h.disk,fun q=>?_,by simp [Zdq],ZlU h.ok,by simp [Zdq],fun q hq=>?_,by simp [Zdq],by simp [Zdq],h.tree.nodup,fun q hq=>?_,h.ok.1.2.1.1,h.room,?_⟩,h.tree,fun q=>?_⟩
 ·simp [Zef,Zdq]
 ·simp only [Zdq,List.not_mem_nil,false_or] at hq;exact (h.part q).2 (.inr (hu q hq))
 ·rintro (hq2|hq2)
  ·exact h.apart q hq (hu q hq2)
  ·have:=(h.part q).2 (.inl hq);omega
 ·simp only [Zdq];rw [h.late];simp
 ·simp [live,Zdq]
end Go.Rx
namespace Go.Rx
open Go
structure ZcB (d0:ZT) (m:ZX) (oldest:Int) (pg0:List Int) (t:GTxn) (ps:List ZR) (pg:List Int):Prop where
 base:t.Za=m
 txs:Txs (Zef m oldest) pg0 t.ZK t.Zy ps pg
 pages:t.ZK.Zc.Zv=d0.Zv
theorem ZkH {l:List GPut} {q:Int} (h:∀x∈l,x.Zu≠q):Zbi l q=none:=by
 unfold Zbi;rw [List.find?_eq_none.2 fun x hx=>by simpa using h x (List.mem_reverse.1 hx)];rfl
theorem ZcB.text {d0:ZT} {m:ZX} {oldest:Int} {pg0:List Int} {t:GTxn} {ps:List ZR} {pg:List Int} (h:ZcB d0 m oldest pg0 t ps pg) (hd:d0.Zm=[]) {q:Int} (hq:¬Zef m oldest q):
  ZU t.ZK.Zc q=ZU d0 q:=by
 have hl:Zbi t.ZK.Zc.Zm q=none:=ZkH fun x hx e=>hq (e▸h.txs.ok.late x hx)
 unfold ZU;have e:Za9 t.ZK.Zc q↔Za9 d0 q:=by unfold Za9;rw [h.pages]
 by_cases hp:Za9 d0 q
 ·rw [if_pos hp,if_pos (e.2 hp),hl,hd,Zdi,h.pages]
 ·rw [if_neg hp,if_neg fun h2=>hp (e.1 h2)]
theorem Zmc {d:ZT} {m:ZX} {ps:List ZR} {pg:List Int} {oldest q:Int} (h:ZaX d m ps pg) (hq:Zef m oldest q):2≤q:=by
 rcases hq with hq|hq
 ·exact ((h.part q).2 (.inr (ZfK.subset (Zbs.mem_iff.1 hq)))).1
 ·have:=h.ok.1.2.1.1;omega
def ZlK (d:ZT) (m:ZX) (oldest:Int):GTxn:=⟨m,Zdq d m oldest,m.Zy⟩
theorem ZlJ {d:ZT} {m:ZX} {ps:List ZR} {pg:List Int} {oldest:Int} (h:ZaX d m ps pg):ZcB d m oldest pg (ZlK d m oldest) ps pg:=⟨rfl,ZoC h,rfl⟩
def putT (t:GTxn) (key val:Key):Option GTxn:=(putK t.ZK t.Zy key val).map fun r=>⟨t.Za,r.1,r.2⟩
def ZgR (t:GTxn) (key:Key):Option GTxn:=(Zn6 t.ZK t.Zy key).map fun r=>⟨t.Za,r.1,r.2⟩
theorem ZqJ {d0:ZT} {m:ZX} {oldest:Int} {pg0:List Int} {t t':GTxn} {ps:List ZR} {pg:List Int} {key val:Key} (h:ZcB d0 m oldest pg0 t ps pg) (hp:putT t key val=some t'):
  ∃pg',ZcB d0 m oldest pg0 t' (mput ps key val) pg':=by
 obtain ⟨⟨w,r⟩,h1,rfl⟩:=Option.map_eq_some_iff.1 hp;obtain ⟨pg',h2,_⟩:=Zug h.txs h1;exact ⟨pg',h.base,h2,(ZrL h1).trans h.pages⟩
theorem Zn5 {d0:ZT} {m:ZX} {oldest:Int} {pg0:List Int} {t t':GTxn} {ps:List ZR} {pg:List Int} {key:Key} (h:ZcB d0 m oldest pg0 t ps pg) (hp:ZgR t key=some t'):
  (∃q∈ps,q.Zi=key)∧∃pg',ZcB d0 m oldest pg0 t' (ZeI ps key) pg':=by
 obtain ⟨⟨w,r⟩,h1,rfl⟩:=Option.map_eq_some_iff.1 hp;obtain ⟨h0,pg',h2,_⟩:=Zsv h.txs h1;exact ⟨h0,pg',h.base,h2,(Zpy h1).trans h.pages⟩
def ZaB (fresh:List Int) (l:List Zau):List Zau:=(l.map fun f=>(⟨f.ZF,f.Zv.filter fun p=> !decide (p∈fresh)⟩:Zau)).filter fun f=>decide (0<f.Zv.length)
def ZaM (t:GTxn):List Int:=ZaP (t.ZK.Zg++t.ZK.ZH.filter fun p=>decide (t.Za.Zs≤p))
def ZaW (t:GTxn):Int:=if t.Za.ZF<100001 then t.Za.ZF+1 else t.Za.ZF
def Zbg (t:GTxn):ZX:=⟨ZaW t,t.Zy,t.ZK.Zs,ZaB t.ZK.Zf t.Za.Ze++if 0<(ZaM t).length then [⟨ZaW t,ZaM t⟩] else []⟩
def Zdb (t:GTxn):Option ZX:=(Zav (Zbg t)).map fun _=>Zbg t
def Zgx (t:GTxn):Prop:=t.Zy=t.Za.Zy∧t.ZK.Zg=[]
instance {t:GTxn}:Decidable (Zgx t):=by unfold Zgx;infer_instance
def Zev (t:GTxn):Option (ZT×ZX):=
 if Zgx t then some (Za6 t.ZK.Zc,t.Za) else match Zav (Zbg t) with
  |none=>none
  |some text=>(Zak (Za6 t.ZK.Zc) (ZaW t%2) text).map fun d=>(Za6 d,Zbg t)
theorem Zse {fresh:List Int} {l:List Zau} {q:Int}:q∈Z5 (ZaB fresh l)↔q∈Z5 l∧q∉fresh:=by
 unfold Z5 ZaB;simp only [List.mem_flatMap,List.mem_filter,List.mem_map,decide_eq_true_eq];constructor
 ·rintro ⟨f,⟨⟨g,hg,rfl⟩,_⟩,hq⟩;simp only [List.mem_filter,Bool.not_eq_true',decide_eq_false_iff_not] at hq;exact ⟨⟨g,hg,hq.1⟩,hq.2⟩
 ·rintro ⟨⟨g,hg,hq⟩,h2⟩;have:q∈g.Zv.filter fun p=> !decide (p∈fresh):=by simp [List.mem_filter,hq,h2]
  exact ⟨⟨g.ZF,g.Zv.filter fun p=> !decide (p∈fresh)⟩,⟨⟨g,hg,rfl⟩,List.length_pos_of_mem this⟩,this⟩
theorem Zim {t:GTxn} {q:Int}:q∈ZaM t↔q∈t.ZK.Zg∨(q∈t.ZK.ZH∧t.Za.Zs≤q):=by
 unfold ZaM;rw [Zbs.mem_iff];simp [List.mem_filter]
theorem Zo1 {t:GTxn} {q:Int}:q∈Z5 (Zbg t).Ze↔(q∈Z5 t.Za.Ze∧q∉t.ZK.Zf)∨q∈ZaM t:=by
 have e:Z5 (Zbg t).Ze=Z5 (ZaB t.ZK.Zf t.Za.Ze)++Z5 (if 0<(ZaM t).length then [⟨ZaW t,ZaM t⟩] else []):=by simp [Zbg,Z5]
 rw [e,List.mem_append,Zse];have e2:q∈Z5 (if 0<(ZaM t).length then [(⟨ZaW t,ZaM t⟩:Zau)] else [])↔q∈ZaM t:=by
  split
  ·simp [Z5]
  ·rename_i h;have:ZaM t=[]:=List.length_eq_zero_iff.1 (by omega);simp [Z5,this]
 rw [e2]
end Go.Rx
namespace Go.Rx
open Go
theorem Zdp.unique {d:ZT} {root:Int} {ps ps':List ZR} {pg pg':List Int} (h:Zdp (rdW d) root ps pg) (h':Zdp (rdW d) root ps' pg'):ps=ps'∧pg=pg':=by
 obtain ⟨a,b,e⟩:=Zjf h;obtain ⟨a',b',e'⟩:=Zjf h';rw [e] at e';injection e' with e1 e2
 exact ⟨e2,e1⟩
theorem ZiV {d d':ZT} {q:Int} (h:ZU d' q=ZU d q):rdW d' q=rdW d q:=by unfold rdW;rw [h]
theorem mod2 {x:Int}:x%2=0∨x%2=1:=by omega
theorem ZaX.frame {d d':ZT} {m:ZX} {ps:List ZR} {pg:List Int} (h:ZaX d m ps pg) (h1:Za5 d') (h2:d'.Zm=[]) (h3:d'.Zv.length=d.Zv.length)
  (h4:∀q,q∈pg∨q=0∨q=1→ZU d' q=ZU d q):ZaX d' m ps pg:=by
 refine ⟨h1,h2,h.ok,by rw [h3];exact h.room,?_,?_,h.tree.frame fun q hq=>ZiV (h4 q (.inl hq)),h.part,h.apart⟩
 ·rw [h4 _ (.inr mod2)];exact h.here
 ·intro m' hm';rw [h4 _ (.inr (by omega))] at hm';exact h.other m' hm'
def Prot (m:ZX) (pg:List Int) (x q:Int):Prop:=q∈pg∨∃f∈m.Ze,x<f.ZF∧q∈f.Zv
theorem ZkI {l:List Zau} (h:(Z5 l).Nodup) {f g:Zau} (hf:f∈l) (hg:g∈l) {q:Int} (h1:q∈f.Zv) (h2:q∈g.Zv):f=g:=by
 induction l with
 |nil=>simp at hf
 |cons a l ih=>
  have h':(a.Zv++Z5 l).Nodup:=h;obtain ⟨_,n2,n3⟩:=List.nodup_append.1 h';have hin:∀ {x:Zau},x∈l→q∈x.Zv→q∈Z5 l:=fun hx hq=>List.mem_flatMap.2 ⟨_,hx,hq⟩
  rcases List.mem_cons.1 hf with e1|hf
  ·rcases List.mem_cons.1 hg with e2|hg
   ·rw [e1,e2]
   ·exact absurd rfl (n3 q (e1▸h1) q (hin hg h2))
  ·rcases List.mem_cons.1 hg with e2|hg
   ·exact absurd rfl (n3 q (e2▸h2) q (hin hf h1))
   ·exact ih n2 hf hg
theorem ZcG {d:ZT} {m:ZX} {ps:List ZR} {pg:List Int} {oldest x q:Int} (h:ZaX d m ps pg) (hx:oldest≤x) (hq:Prot m pg x q):¬Zef m oldest q:=by
 have hpart:=h.part q;rcases hq with hq|⟨f,hf,h1,h2⟩
 ·rintro (ho|ho)
  ·exact h.apart q hq (ZfK.subset (Zbs.mem_iff.1 ho))
  ·have:=hpart.2 (.inl hq);omega
 ·have hin:q∈Z5 m.Ze:=List.mem_flatMap.2 ⟨f,hf,h2⟩;rintro (ho|ho)
  ·obtain ⟨g,hg,h3,h4⟩:=Zrx.1 (Zbs.mem_iff.1 ho);obtain rfl:=ZkI (List.nodup_cons.1 h.ok.2.2.2).2 hf hg h2 h4;omega
  ·have:=hpart.2 (.inr hin);omega
structure Zkx (d0:ZT) (m:ZX) (oldest:Int) (pg0:List Int) (d':ZT) (m':ZX) (ps:List ZR) (pg:List Int):Prop where
 inv:ZaX d' m' ps pg
 len:d'.Zv.length=d0.Zv.length
 text:∀q,2≤q→¬Zef m oldest q→ZU d' q=ZU d0 q
 tx:m.ZF≤m'.ZF∧m'.ZF≤m.ZF+1
 prot:∀x q,oldest≤x→x≤m.ZF→Prot m pg0 x q→Prot m' pg x q
theorem ZdC {m:ZX} {t:List UInt8} (h:Zav m=some t):Za8 m∧t.length≤240∧ZaL t=some m:=by
 have h2:=Zfo.2 h;obtain ⟨a,b,c⟩:=Zgy h2;exact ⟨a,c,h2⟩
theorem ZlA {d0 d':ZT} {m m':ZX} {oldest:Int} {pg0 pg:List Int} {ps0 ps:List ZR} {t:GTxn} (hD:ZaX d0 m ps0 pg0) (h:ZcB d0 m oldest pg0 t ps pg) (hc:Zev t=some (d',m')):
  Zkx d0 m oldest pg0 d' m' ps pg:=by
 have hok:=h.txs.ok;have hno:∀q,q∈pg0∨q=0∨q=1→¬Zef m oldest q:=by
  rintro q (hq|hq)
  ·exact ZcG hD (Int.le_refl _) (.inl hq)
  ·intro ho;have:=Zmc hD ho;omega
 have htext:∀q,¬Zef m oldest q→ZU (Za6 t.ZK.Zc) q=ZU d0 q:=fun q hq=>by rw [ZcX,h.text hD.late hq]
 have hsok:=Zg0 hok.disk;have hslen:(Za6 t.ZK.Zc).Zv.length=d0.Zv.length:=by rw [Zbb,h.pages]
 unfold Zev at hc;by_cases hs:Zgx t
 ·rw [if_pos hs] at hc;simp only [Option.some.injEq,Prod.mk.injEq] at hc;obtain ⟨rfl,rfl⟩:=hc;have hI:ZaX (Za6 t.ZK.Zc) m ps0 pg0:=hD.frame hsok rfl hslen fun q hq=>htext q (hno q hq)
  have hT:=h.txs.tree;rw [←Zwy,hs.1,h.base] at hT;obtain ⟨rfl,rfl⟩:=hT.unique hI.tree;rw [h.base];exact ⟨hI,hslen,fun q _ hq=>htext q hq,⟨by omega,by omega⟩,fun x q _ _ hq=>hq⟩
 ·rw [if_neg hs] at hc;split at hc
  ·cases hc
  ·rename_i text hmt;obtain ⟨d1,hd1,hd2⟩:=Option.map_eq_some_iff.1 hc;simp only [Prod.mk.injEq] at hd2;obtain ⟨rfl,rfl⟩:=hd2;obtain ⟨hmok,hlen,hread⟩:=ZdC hmt;have htx:ZaW t=m.ZF+1:=by
    unfold ZaW;rw [h.base,if_pos (by have:=hD.ok.1.1.2;omega)]
   obtain ⟨o1,o2,_,_,_⟩:=Zcv hd1;have hrd:∀q,ZU (Za6 d1) q=if q=ZaW t%2 then text else ZU (Za6 t.ZK.Zc) q:=fun q=>by rw [ZcX,Zda hd1]
   have hgone:∀q,q∈t.ZK.Zg→q∈pg0:=hok.goneB;have hnow:∀q,q∈pg↔q∈t.ZK.Zf∨(q∈pg0∧q∉t.ZK.Zg):=fun q=>(h.txs.now q).symm
   have hours:=hok.ours_iff;have hpgm:∀q,q∈Z5 (Zbg t).Ze↔(q∈Z5 m.Ze∧q∉t.ZK.Zf)∨q∈t.ZK.Zg∨(q∈t.ZK.ZH∧m.Zs≤q):=fun q=>by rw [Zo1,Zim,h.base]
   have hlow:∀q∈pg,2≤q:=fun q hq=>by
    rcases (hnow q).1 hq with hq|⟨hq,_⟩
    ·exact (hok.small q (.inl hq)).1
    ·exact ((hD.part q).2 (.inl hq)).1
   refine ⟨⟨Zg0 o1,rfl,hmok,?_,?_,?_,?_,fun q=>?_,fun q hq=>?_⟩,?_,fun q h2 hq=>?_,?_,fun x q hx hx2 hq=>?_⟩
   ·show t.ZK.Zs≤_;have:=hok.nextL;rw [Zbb,ZdQ hd1,Zbb];exact this
   ·show ZaL (ZU (Za6 d1) (ZaW t%2))=_;rw [hrd,if_pos rfl,hread]
   ·intro m2 hm2;have hm2:ZaL (ZU (Za6 d1) (1 - ZaW t%2))=some m2:=hm2;rw [hrd,if_neg (by omega),htext _ (hno _ (.inr (by omega)))] at hm2;have e:1 - ZaW t%2=m.ZF%2:=by rw [htx];omega
    rw [e,hD.here] at hm2;obtain rfl:=Option.some.inj hm2;show m.ZF<ZaW t;omega
   ·refine h.txs.tree.frame fun q hq=>ZiV ?_
    have:=hlow q hq;rw [hrd,if_neg (by omega),ZcX]
   ·have hin:q∈Z5 (Zbg t).Ze→2≤q∧q<(Zbg t).Zs:=fun hq=>by
     obtain ⟨f,hf,hq⟩:=List.mem_flatMap.1 hq;have:=(hmok.2.1 f hf).2.2.2 q hq;omega
    constructor
    ·rintro ⟨h2,h3⟩;have h3:q<t.ZK.Zs:=h3;rw [hnow,hpgm];by_cases hf:q∈t.ZK.Zf
     ·exact .inl (.inl hf)
     by_cases hq:q<m.Zs
     ·rcases (hD.part q).1 ⟨h2,hq⟩ with h4|h4
      ·by_cases hg:q∈t.ZK.Zg
       ·exact .inr (.inr (.inl hg))
       ·exact .inl (.inr ⟨h4,hg⟩)
      ·exact .inr (.inl ⟨h4,hf⟩)
     ·rcases (hours q).1 (.inr (by omega)) with h4|h4|h4
      ·exact absurd h4 hf
      ·exact .inr (.inr (.inr ⟨h4,by omega⟩))
      ·omega
    ·rintro (hq|hq)
     ·refine ⟨hlow q hq,?_⟩;show q<t.ZK.Zs;rcases (hnow q).1 hq with h4|⟨h4,_⟩
      ·exact (hok.small q (.inl h4)).2
      ·refine Decidable.byContradiction fun hlt=>hok.baseN q h4 ((hours q).2 (.inr (.inr (by omega))))
     ·exact hin hq
   ·rw [hpgm];rcases (hnow q).1 hq with h4|⟨h4,h5⟩
    ·rintro (h6|h6|h6)
     ·exact h6.2 h4
     ·exact hok.baseN q (hgone q h6) ((hours q).2 (.inl h4))
     ·exact hok.apart q h4 h6.1
    ·rintro (h6|h6|h6)
     ·exact hD.apart q h4 h6.1
     ·exact h5 h6
     ·exact hok.baseN q h4 ((hours q).2 (.inr (.inl h6.1)))
   ·rw [Zbb,ZdQ hd1,hslen]
   ·rw [hrd,if_neg (by omega),htext q hq]
   ·show m.ZF≤ZaW t∧ZaW t≤m.ZF+1;omega
   ·have hnf:q∉t.ZK.Zf:=fun hf=>ZcG hD hx hq ((hours q).2 (.inl hf))
    rcases hq with hq|⟨f,hf,h1,h2⟩
    ·by_cases hg:q∈t.ZK.Zg
     ·have hmem:q∈ZaM t:=Zim.2 (.inl hg);refine .inr ⟨⟨ZaW t,ZaM t⟩,?_,by simp only;omega,hmem⟩;simp only [Zbg];rw [if_pos (List.length_pos_of_mem hmem)];simp
     ·exact .inl ((hnow q).2 (.inr ⟨hq,hg⟩))
    ·have hmem:q∈f.Zv.filter fun p=> !decide (p∈t.ZK.Zf):=by simp [List.mem_filter,h2,hnf]
     refine .inr ⟨⟨f.ZF,f.Zv.filter fun p=> !decide (p∈t.ZK.Zf)⟩,?_,h1,hmem⟩;simp only [Zbg,ZaB,h.base];refine List.mem_append_left _ (List.mem_filter.2 ⟨List.mem_map.2 ⟨f,hf,rfl⟩,?_⟩);simpa using List.length_pos_of_mem hmem
end Go.Rx
namespace Go.Rx
open Go
theorem ZaX.frame2 {d d':ZT} {m:ZX} {ps:List ZR} {pg:List Int} (h:ZaX d m ps pg) (h1:Za5 d') (h2:d'.Zm=[]) (h3:d'.Zv.length=d.Zv.length)
  (h4:∀q,q∈pg∨q=m.ZF%2→ZU d' q=ZU d q) (h5:∀m',ZaL (ZU d' (1 - m.ZF%2))=some m'→m'.ZF<m.ZF):ZaX d' m ps pg:=
 ⟨h1,h2,h.ok,by rw [h3];exact h.room,by rw [h4 _ (.inr rfl)];exact h.here,h5,h.tree.frame fun q hq=>ZiV (h4 q (.inl hq)),h.part,h.apart⟩
theorem ZeZ {d:ZT} (h:d.Zm=[]) {q:Int}:ZU ⟨d.Zv,[]⟩ q=ZU d q:=by
 unfold ZU;rw [h];rfl
theorem ZhP {d d':ZT} (h:d.Zv=d'.Zv) {q:Int}:ZU ⟨d.Zv,[]⟩ q=ZU ⟨d'.Zv,[]⟩ q:=by rw [h]
theorem Zrh {d:ZT} {m:ZX} {ps:List ZR} {pg:List Int} {left:List Bool} {torn:Int} (h:ZaX d m ps pg):ZaX (Zb9 d left torn) m ps pg:=
 h.frame (Zi5 h.disk) (ZcA h.disk) ZcK fun q _=>by rw [Zh1 h.disk (by rw [h.late];simp),ZeZ h.late]
theorem ZwD {d0:ZT} {m:ZX} {oldest:Int} {pg0 pg:List Int} {ps0 ps:List ZR} {t:GTxn} (hD:ZaX d0 m ps0 pg0) (h:ZcB d0 m oldest pg0 t ps pg):
  Zkx d0 m oldest pg0 (Za6 t.ZK.Zc) m ps0 pg0:=by
 have hno:∀q,q∈pg0∨q=0∨q=1→¬Zef m oldest q:=by
  rintro q (hq|hq)
  ·exact ZcG hD (Int.le_refl _) (.inl hq)
  ·intro ho;have:=Zmc hD ho;omega
 have htext:∀q,¬Zef m oldest q→ZU (Za6 t.ZK.Zc) q=ZU d0 q:=fun q hq=>by rw [ZcX,h.text hD.late hq]
 have hslen:(Za6 t.ZK.Zc).Zv.length=d0.Zv.length:=by rw [Zbb,h.pages]
 exact ⟨hD.frame (Zg0 h.txs.ok.disk) rfl hslen fun q hq=>htext q (hno q hq),hslen,fun q _ hq=>htext q hq,⟨by omega,by omega⟩,fun x q _ _ hq=>hq⟩
def cutD (t:GTxn) (stage:Int) (left:List Bool) (torn:Int):ZT:=
 if Zgx t∨Zav (Zbg t)=none∨stage=0 then Zb9 t.ZK.Zc left torn
 else match Zak (Za6 t.ZK.Zc) (ZaW t%2) ((Zav (Zbg t)).getD []) with
  |some d=>Zb9 d left torn
  |none=>Zb9 (Za6 t.ZK.Zc) left torn
theorem Zvs {d0:ZT} {m:ZX} {oldest stage torn:Int} {left:List Bool} {pg0 pg:List Int} {ps0 ps:List ZR} {t:GTxn} (hD:ZaX d0 m ps0 pg0) (h:ZcB d0 m oldest pg0 t ps pg):
  (cutD t stage left torn).Zv.length=d0.Zv.length∧(ZaX (cutD t stage left torn) m ps0 pg0∨(¬Zgx t∧Zav (Zbg t)≠none∧ZaX (cutD t stage left torn) (Zbg t) ps pg)):=by
 have hok:=h.txs.ok;have hno:∀q,q∈pg0∨q=0∨q=1→¬Zef m oldest q:=by
  rintro q (hq|hq)
  ·exact ZcG hD (Int.le_refl _) (.inl hq)
  ·intro ho;have:=Zmc hD ho;omega
 have htext:∀q,¬Zef m oldest q→ZU (Za6 t.ZK.Zc) q=ZU d0 q:=fun q hq=>by rw [ZcX,h.text hD.late hq]
 have hslen:(Za6 t.ZK.Zc).Zv.length=d0.Zv.length:=by rw [Zbb,h.pages]
 have hsok:=Zg0 hok.disk;unfold cutD;by_cases hc:Zgx t∨Zav (Zbg t)=none∨stage=0
 ·rw [if_pos hc];refine ⟨by rw [ZcK,h.pages],.inl (hD.frame (Zi5 hok.disk) (ZcA hok.disk) (by rw [ZcK,h.pages]) fun q hq=>?_)⟩;have hk:∀x∈t.ZK.Zc.Zm,x.Zu≠q:=fun x hx e=>hno q hq (by rw [←e];exact hok.late x hx)
  rw [Zh1 hok.disk hk,ZhP h.pages,ZeZ hD.late]
 ·rw [if_neg hc];have c1:¬Zgx t:=fun e=>hc (.inl e)
  have c2:Zav (Zbg t)≠none:=fun e=>hc (.inr (.inl e))
  obtain ⟨text,hmt⟩:=Option.ne_none_iff_exists'.1 c2;rw [hmt,Option.getD_some];obtain ⟨hmok,hlen,hread⟩:=ZdC hmt;have htx:ZaW t=m.ZF+1:=by
   unfold ZaW;rw [h.base,if_pos (by have:=hD.ok.1.1.2;omega)]
  have hpage:Za9 (Za6 t.ZK.Zc) (ZaW t%2):=by
   have:=hsok.1;unfold Za9;omega
  have hw:Zak (Za6 t.ZK.Zc) (ZaW t%2) text=some {Za6 t.ZK.Zc with Zm:=(Za6 t.ZK.Zc).Zm++[⟨ZaW t%2,text⟩]}:=by
   unfold Zak;rw [if_pos ⟨hsok,hpage,hlen,by simp [Za6]⟩]
  rw [hw];simp only;generalize hd1:({Za6 t.ZK.Zc with Zm:=(Za6 t.ZK.Zc).Zm++[⟨ZaW t%2,text⟩]}:ZT)=d1 at hw ⊢;have hlate:d1.Zm=[⟨ZaW t%2,text⟩]:=by rw [←hd1];rfl
  have hpgs:d1.Zv=(Za6 t.ZK.Zc).Zv:=by rw [←hd1]
  obtain ⟨o1,_⟩:=Zcv hw;have hlen1:(Zb9 d1 left torn).Zv.length=d0.Zv.length:=by rw [ZcK,hpgs,hslen]
  refine ⟨hlen1,?_⟩;have hkeep:∀q,q≠ZaW t%2→ZU (Zb9 d1 left torn) q=ZU (Za6 t.ZK.Zc) q:=fun q hq=>by
   rw [Zh1 o1 (by rw [hlate];intro x hx;simp at hx;subst hx;exact fun e=>hq e.symm),ZhP hpgs,ZeZ rfl]
  have hold:(∀m',ZaL (ZU (Zb9 d1 left torn) (ZaW t%2))=some m'→m'.ZF<m.ZF)→ZaX (Zb9 d1 left torn) m ps0 pg0:=fun hx=>by
   have e:1 - m.ZF%2=ZaW t%2:=by rw [htx];omega
   refine hD.frame2 (Zi5 o1) (ZcA o1) hlen1 (fun q hq=>?_) (by rw [e];exact hx);have hq2:q≠ZaW t%2:=by
    rcases hq with hq|hq
    ·have:=((hD.part q).2 (.inl hq)).1;omega
    ·rw [htx];omega
   rw [hkeep q hq2,htext q (hno q (hq.imp id fun e=>by omega))]
  rcases Zvo (left:=left) (torn:=torn) o1 hlate with hr|⟨b,hr⟩
  ·left;refine hold fun m' hm'=>?_;rw [hr,ZhP hpgs,ZeZ rfl,htext _ (hno _ (.inr (by omega)))] at hm';have e:ZaW t%2=1 - m.ZF%2:=by rw [htx];omega
   rw [e] at hm';exact hD.other m' hm'
  ·cases b with
   |true=>
    left;refine hold fun m' hm'=>?_;obtain ⟨_,rfl,_⟩:=Zgy hread;rw [hr,Zjg,if_pos rfl,Zl7 hmok] at hm'
    ·cases hm'
    ·have:0<(Zds (Zbg t)).length:=by simp only [Zds,ZiS];omega
     omega
   |false=>
    right;refine ⟨c1,by simp,?_⟩;have hcm:Zev t=some (Za6 d1,Zbg t):=by
     unfold Zev;rw [if_neg c1,hmt];simp only;rw [hw];rfl
    have hI:=(ZlA hD h hcm).inv;refine hI.frame (Zi5 o1) (ZcA o1) (by rw [ZcK,Zbb]) fun q _=>?_;rw [ZcX,Zda hw];by_cases hq:q=ZaW t%2
    ·rw [if_pos hq,hq,hr];rfl
    ·rw [if_neg hq,hkeep q hq]
end Go.Rx
namespace Go.Rx
open Go
structure Zap (s:ZN) (ps:List ZR) (pg:List Int) (next:List ZR) (view:Int→List ZR):Prop where
 disk:ZaX s.Zc s.Zp ps pg
 ids:(s.Zx.map (·.Zh)).Pairwise (·< ·)
 idr:∀r∈s.Zx,1≤r.Zh∧r.Zh≤9
 few:s.Zx.length≤3
 rds:∀r∈s.Zx,(Za8 r.Zp∧r.Zp.ZF≤s.Zp.ZF)∧∃pgr,Zdp (rdW s.Zc) r.Zp.Zy (view r.Zh) pgr∧∀q∈pgr,Prot s.Zp pg r.Zp.ZF q
 idle:s.ZL=false→s.ZG=GTxn.zero∧s.Zd=false
 txn:s.ZL=true→∃oldest pgn,oldest≤s.Zp.ZF∧(∀r∈s.Zx,oldest≤r.Zp.ZF)∧ZcB s.Zc s.Zp oldest pg s.ZG next pgn
def Ze3 (n:Int) (l:List Zaf):Int:=l.foldl (fun n r=>if r.Zp.ZF<n then r.Zp.ZF else n) n
def Zco (s:ZN):Int:=Ze3 s.Zp.ZF s.Zx
theorem ZgB:∀ {l:List Zaf} {n:Int},Ze3 n l≤n∧∀r∈l,Ze3 n l≤r.Zp.ZF
 |[],n=>⟨Int.le_refl _,by simp⟩
 |r::l,n=>by
  have h:=ZgB (l:=l) (n:=if r.Zp.ZF<n then r.Zp.ZF else n);have e:Ze3 n (r::l)=Ze3 (if r.Zp.ZF<n then r.Zp.ZF else n) l:=rfl;rw [e];have h1:=h.1;refine ⟨?_,fun x hx=>?_⟩
  ·split at h1<;>split<;>omega
  ·rcases List.mem_cons.1 hx with rfl|hx
   ·split at h1<;>split<;>omega
   ·exact h.2 x hx
def ZoU (s:ZN) (d:ZT) (m:ZX):ZN:=⟨d,m,s.Zx,GTxn.zero,false,false⟩
theorem ZwL {d:ZT} {m:ZX} {ps:List ZR} {pg:List Int} {x q:Int} (h:ZaX d m ps pg) (hq:Prot m pg x q):2≤q:=by
 rcases hq with hq|⟨f,hf,_,hq⟩
 ·exact ((h.part q).2 (.inl hq)).1
 ·exact ((h.part q).2 (.inr (List.mem_flatMap.2 ⟨f,hf,hq⟩))).1
theorem ZqB {s:ZN} {ps ps':List ZR} {pg pg':List Int} {next next':List ZR} {view:Int→List ZR} {d':ZT} {m':ZX} {oldest:Int} (h:Zap s ps pg next view)
  (ho:∀r∈s.Zx,oldest≤r.Zp.ZF) (hc:Zkx s.Zc s.Zp oldest pg d' m' ps' pg'):Zap (ZoU s d' m') ps' pg' next' view:=by
 refine ⟨hc.inv,h.ids,h.idr,h.few,fun r hr=>?_,fun _=>⟨rfl,rfl⟩,fun h=>by cases h⟩;obtain ⟨⟨h1,h2⟩,pgr,h3,h4⟩:=h.rds r hr;have hx:=ho r hr;have:=hc.tx;refine ⟨⟨h1,by simp only [ZoU];omega⟩,pgr,?_,fun q hq=>hc.prot _ q hx h2 (h4 q hq)⟩;exact h3.frame fun q hq=>ZiV (hc.text q (ZwL h.disk (h4 q hq)) (ZcG h.disk hx (h4 q hq)))
def Zgv (s:ZN):ZN:= {s with ZG:=ZlK s.Zc s.Zp (Zco s),ZL:=true,Zd:=false}
theorem ZkB {s:ZN} {ps:List ZR} {pg:List Int} {next:List ZR} {view:Int→List ZR} (h:Zap s ps pg next view):Zap (Zgv s) ps pg ps view:=
 ⟨h.disk,h.ids,h.idr,h.few,h.rds,fun h=>by simp [Zgv] at h,fun _=>⟨Zco s,pg,ZgB.1,ZgB.2,ZlJ h.disk⟩⟩
theorem ZmE {s:ZN} {ps:List ZR} {pg:List Int} {next:List ZR} {view:Int→List ZR} {key val:Key} {t:GTxn} (h:Zap s ps pg next view) (hw:s.ZL=true) (hp:putT s.ZG key val=some t):
  Zap {s with ZG:=t} ps pg (mput next key val) view:=by
 obtain ⟨o,pgn,h1,h2,h3⟩:=h.txn hw;obtain ⟨pg',h4⟩:=ZqJ h3 hp;exact ⟨h.disk,h.ids,h.idr,h.few,h.rds,fun e=>(by have e:s.ZL=false:=e;rw [hw] at e;cases e),fun _=>⟨o,pg',h1,h2,h4⟩⟩
theorem ZlQ {s:ZN} {ps:List ZR} {pg:List Int} {next:List ZR} {view:Int→List ZR} {key:Key} {t:GTxn} (h:Zap s ps pg next view) (hw:s.ZL=true) (hp:ZgR s.ZG key=some t):
  Zap {s with ZG:=t} ps pg (ZeI next key) view:=by
 obtain ⟨o,pgn,h1,h2,h3⟩:=h.txn hw;obtain ⟨_,pg',h4⟩:=Zn5 h3 hp;exact ⟨h.disk,h.ids,h.idr,h.few,h.rds,fun e=>(by have e:s.ZL=false:=e;rw [hw] at e;cases e),fun _=>⟨o,pg',h1,h2,h4⟩⟩
theorem Zh2 {s:ZN} {ps:List ZR} {pg:List Int} {next:List ZR} {view:Int→List ZR} (h:Zap s ps pg next view) (hw:s.ZL=true):Zap {s with Zd:=true} ps pg next view:=
 ⟨h.disk,h.ids,h.idr,h.few,h.rds,fun e=>(by have e:s.ZL=false:=e;rw [hw] at e;cases e),h.txn⟩
theorem Zg2 {s:ZN} {ps:List ZR} {pg:List Int} {next next':List ZR} {view:Int→List ZR} (h:Zap s ps pg next view) (hw:s.ZL=true):
  Zap (ZoU s (Za6 s.ZG.ZK.Zc) s.Zp) ps pg next' view:=by
 obtain ⟨o,pgn,h1,h2,h3⟩:=h.txn hw;exact ZqB h h2 (ZwD h.disk h3)
theorem Zn3 {s:ZN} {ps:List ZR} {pg:List Int} {next next':List ZR} {view:Int→List ZR} {d:ZT} {m:ZX} (h:Zap s ps pg next view) (hw:s.ZL=true) (hc:Zev s.ZG=some (d,m)):
  ∃pg',Zap (ZoU s d m) next pg' next' view:=by
 obtain ⟨o,pgn,h1,h2,h3⟩:=h.txn hw;exact ⟨pgn,ZqB h h2 (ZlA h.disk h3 hc)⟩
def Zdr (d:ZT) (m:ZX):ZN:=⟨d,m,[],GTxn.zero,false,false⟩
theorem ZqP {d:ZT} {m:ZX} {ps:List ZR} {pg:List Int} {next:List ZR} {view:Int→List ZR} (h:ZaX d m ps pg):Zap (Zdr d m) ps pg next view:=
 ⟨h,by simp [Zdr],by simp [Zdr],by simp [Zdr],by simp [Zdr],fun _=>⟨rfl,rfl⟩,fun h=>by cases h⟩
def Zf7 (d:ZT):Option ZX:=match ZaL (ZU d 0),ZaL (ZU d 1) with
 |some a,some b=>if b.ZF≤a.ZF then some a else some b
 |some a,none=>some a
 |none,some b=>some b
 |none,none=>none
theorem Zon {d:ZT} {m:ZX} {ps:List ZR} {pg:List Int} (h:ZaX d m ps pg):Zf7 d=some m:=by
 have h1:=h.here;have h2:=h.other;unfold Zf7;rcases mod2 (x:=m.ZF) with e|e
 ·rw [e] at h1 h2;rw [h1];cases hb:ZaL (ZU d 1) with
  |none=>rfl
  |some b=>have:=h2 b hb;simp only;rw [if_pos (by omega)]
 ·rw [e] at h1 h2;rw [h1];cases hb:ZaL (ZU d 0) with
  |none=>rfl
  |some b=>have:=h2 b hb;simp only;rw [if_neg (by omega)]
def Zce (s:ZN) (id:Int):ZN:= {s with Zx:=s.Zx.filter (fun r=>decide (r.Zh<id))++⟨id,s.Zp⟩::s.Zx.filter fun r=>decide (id<r.Zh)}
theorem Zl1 {s:ZN} {ps:List ZR} {pg:List Int} {next:List ZR} {view:Int→List ZR} {id:Int} (h:Zap s ps pg next view) (h1:1≤id∧id≤9) (h2:∀r∈s.Zx,r.Zh≠id) (h3:s.Zx.length<3):
  Zap (Zce s id) ps pg next fun i=>if i=id then ps else view i:=by
 have hmem:∀r,r∈(Zce s id).Zx↔r=⟨id,s.Zp⟩∨r∈s.Zx:=fun r=>by
  simp only [Zce,List.mem_append,List.mem_cons,List.mem_filter,decide_eq_true_eq];constructor
  ·rintro (h|h|h)
   ·exact .inr h.1
   ·exact .inl h
   ·exact .inr h.1
  ·rintro (h4|h4)
   ·exact .inr (.inl h4)
   ·have:=h2 r h4;by_cases e:r.Zh<id
    ·exact .inl ⟨h4,e⟩
    ·exact .inr (.inr ⟨h4,by omega⟩)
 refine ⟨h.disk,?_,fun r hr=>?_,?_,fun r hr=>?_,h.idle,fun hw=>?_⟩
 ·have hids:s.Zx.Pairwise fun a b=>a.Zh<b.Zh:=List.pairwise_map.1 h.ids
  refine List.pairwise_map.2 ?_;simp only [Zce];refine List.pairwise_append.2 ⟨hids.filter _,List.pairwise_cons.2 ⟨fun b hb=>?_,hids.filter _⟩,fun a ha b hb=>?_⟩
  ·simp only [List.mem_filter,decide_eq_true_eq] at hb;exact hb.2
  ·simp only [List.mem_filter,decide_eq_true_eq,List.mem_cons] at ha hb;rcases hb with rfl|hb
   ·exact ha.2
   ·have:=ha.2;have:=hb.2;omega
 ·rcases (hmem r).1 hr with rfl|hr
  ·exact h1
  ·exact h.idr r hr
 ·have e:∀l:List Zaf,(l.filter (fun r=>decide (r.Zh<id))).length+(l.filter fun r=>decide (id<r.Zh)).length≤l.length:=by
   intro l;induction l with
   |nil=>simp
   |cons r l ih=>
    simp only [List.filter_cons,List.length_cons];by_cases a:r.Zh<id
    ·simp only [a,decide_true,if_true,show ¬id<r.Zh by omega,decide_false,List.length_cons];simp;omega
    ·by_cases b:id<r.Zh
     ·simp only [a,b,decide_true,if_true,decide_false,List.length_cons];simp;omega
     ·simp only [a,b,decide_false];simp;omega
  have:=e s.Zx;simp only [Zce,List.length_append,List.length_cons];omega
 ·rcases (hmem r).1 hr with rfl|hr
  ·exact ⟨⟨h.disk.ok,Int.le_refl _⟩,pg,by simp only [if_true];exact h.disk.tree,fun q hq=> .inl hq⟩
  ·rw [if_neg (h2 r hr)];exact h.rds r hr
 ·obtain ⟨o,pgn,g1,g2,g3⟩:=h.txn hw;refine ⟨o,pgn,g1,fun r hr=>?_,g3⟩;rcases (hmem r).1 hr with rfl|hr
  ·exact g1
  ·exact g2 r hr
theorem Zpw {s:ZN} {ps:List ZR} {pg:List Int} {next:List ZR} {view:Int→List ZR} {l:List Zaf} (h:Zap s ps pg next view) (hl:l.Sublist s.Zx):Zap {s with Zx:=l} ps pg next view:=by
 refine ⟨h.disk,h.ids.sublist (hl.map _),fun r hr=>h.idr r (hl.subset hr),?_,fun r hr=>h.rds r (hl.subset hr),h.idle,fun hw=>?_⟩
 ·have:=hl.length_le;have:=h.few;simp only;omega
 ·obtain ⟨o,pgn,g1,g2,g3⟩:=h.txn hw;exact ⟨o,pgn,g1,fun r hr=>g2 r (hl.subset hr),g3⟩
end Go.Rx
namespace Go.Rx
open Go
theorem ZgQ {ours:Int→Prop} {B:List Int}:∀ {l:List Int} {w:ZS},WOK ours B w→(∀q∈l,live B w q)→l.Nodup→
  WOK ours B (l.foldl ZbP w)∧(∀q,live B (l.foldl ZbP w) q↔live B w q∧q∉l)∧(l.foldl ZbP w).Zc=w.Zc
 |[],w,hw,_,_=>⟨hw,by simp,rfl⟩
 |p::l,w,hw,hl,hn=>by
  obtain ⟨n1,n2⟩:=List.nodup_cons.1 hn;obtain ⟨d1,d2⟩:=ZeP hw (hl p (by simp));obtain ⟨e1,e2,e3⟩:=ZgQ (l:=l) d1 (fun q hq=>(d2 q).2 ⟨hl q (by simp [hq]),fun e=>n1 (e▸hq)⟩) n2;refine ⟨e1,fun q=>?_,by rw [List.foldl_cons,e3,ZbI]⟩;rw [List.foldl_cons,e2,d2,List.mem_cons,not_or];exact and_assoc
def ZwO (t:GTxn) (ps:List ZR) (pg:List Int):Option GTxn:=(ZhC t.ZK ps).map fun r=>⟨t.Za,(ZaP pg).foldl ZbP r.1,r.2⟩
theorem ZwN {d0:ZT} {m:ZX} {oldest:Int} {pg0:List Int} {t t':GTxn} {ps:List ZR} {pg:List Int} (h:ZcB d0 m oldest pg0 t ps pg) (hp:ZwO t ps pg=some t'):
  ∃pg',ZcB d0 m oldest pg0 t' ps pg':=by
 obtain ⟨⟨w,r⟩,h1,rfl⟩:=Option.map_eq_some_iff.1 hp;obtain ⟨_,b1,pg',b2,b3,b4,_⟩:=ZlH h.txs.ok h1;have hmem:∀q,q∈ZaP pg↔q∈pg:=fun q=>Zbs.mem_iff
 obtain ⟨c1,c2,c3⟩:=ZgQ (l:=ZaP pg) b1 (fun q hq=>(b3 q).2 (.inl ((h.txs.now q).2 ((hmem q).1 hq)))) (Zbs.nodup_iff.2 h.txs.tree.nodup);refine ⟨pg',h.base,⟨c1,?_,fun q=>?_⟩,?_⟩
 ·simp only;rw [c3];exact b2
 ·simp only;rw [c2,b3,hmem,h.txs.now];constructor
  ·rintro ⟨h1|h1,h2⟩
   ·exact absurd h1 h2
   ·exact h1
  ·intro h1;exact ⟨.inr h1,fun h2=>(b4 q h1).1 ((h.txs.now q).2 h2)⟩
 ·simp only;rw [c3,Zol h1];exact h.pages
end Go.Rx
