/-
  Part RxY1: lemmas on an evaluator over plain data of the model's code, plain laws on lists and numbers, or contracts of functions of the program; each lemma names its conditions.
-/
import Derived.Test.YtflimjgjgligeaaGreatSE1
import Derived.Test.YtflimjgjgligeaaGreatSE2
import Derived.Test.YtflimjgjgligeaaGreatSE5
import Derived.Test.YtflimjgjgligeaaGreatSE6
import Derived.Test.YtflimjgjgligeaaGreatSN20
import Derived.Test.YtflimjgjgligeaaGreatSNC
import Derived.Test.YtflimjgjgligeaaGreatSP1
import Derived.Test.YtflimjgjgligeaaGreatSP2
import Derived.Test.YtflimjgjgligeaaGreatSP3
import Derived.Test.YtflimjgjgligeaaGreatSP5

set_option linter.unusedSimpArgs false
set_option linter.unusedVariables false
namespace Go.Rx
open Go
theorem ZFF {s:List UInt8} (h:s.length≤24):(Zcj s).length≤25:=by
 rw [Zcj,List.length_append,ZcU (by omega)];simp;omega
theorem ZFJ {α:Type} {g:α→List UInt8} {c:Nat}:∀ {l:List α},(∀x∈l,(g x).length≤c)→(l.flatMap g).length≤l.length*c
 |[],_=>by simp
 |x::l,h=>by
  have h1:=h x (by simp);have h2:=ZFJ (l:=l) (c:=c) (fun y hy=>h y (by simp [hy]));rw [List.flatMap_cons,List.length_append,List.length_cons,Nat.add_mul];omega
theorem ZFK {n:Z1} (h:ZaA n):(Zcf n).length≤240:=by
 rw [Zcf,ZiS,Za1];have h4:=h.2.1;have hv:(varB n.Zj.length).length=1:=by rw [ZcU (by omega)];rfl
 rw [List.length_cons,List.length_append,hv];cases hl:n.Zn with
 |true=>
  obtain ⟨_,_,g3,g4,g5,_⟩:=(ZgD hl).1 h;have:=ZFJ (g:=lent) (c:=50) (l:=n.Zj.zip n.ZJ) fun e he=>by
   have a1:=ZFF (g3 _ (List.of_mem_zip he).1);have a2:=ZFF (g5 _ (List.of_mem_zip he).2);rw [lent,List.length_append];omega
  rw [List.length_zip] at this;simp only [if_true];omega
 |false=>
  obtain ⟨_,_,g3,g4,_,g5,_⟩:=(Ze4 hl).1 h;have:=ZFJ (g:=bent) (c:=26) (l:=n.Zj.zip n.Zk) fun e he=>by
   have a1:=ZFF (g3 _ (List.of_mem_zip he).1);have a2:=g5 _ (List.of_mem_zip he).2;rw [bent,List.length_append,ZcU (by omega)];simp;omega
  rw [List.length_zip] at this;simp only [Bool.false_eq_true,if_false];omega
structure Lin (w:ZS) (k:Nat):Prop where
 disk:Za5 w.Zc
 pages:w.Zc.Zv.length=40
 late:w.Zc.Zm.length=k
 us:w.ZH=[]
 next:w.Zs=2+(k:Int)
 fr:w.Zf.length=k
theorem ZFO {w:ZS} {k:Nat} {n:Z1} (h:Lin w k) (hk:k<38) (hn:ZaA n):∃w',putN w n=some (w',2+(k:Int))∧Lin w' (k+1):=by
 have hg:Zcu w=({w with Zs:=IntKind.i64.wrap (w.Zs+1),Zf:=w.Zf++[w.Zs]},w.Zs):=by
  rw [Zcu,h.us];simp only;rw [if_neg (by rw [h.pages,h.next];omega)]
 have hw:Zak w.Zc (2+(k:Int)) (Zcf n)=some {w.Zc with Zm:=w.Zc.Zm++[⟨2+(k:Int),Zcf n⟩]}:=by
  have hp:Za9 w.Zc (2+(k:Int)):=by unfold Za9;rw [h.pages];omega
  rw [Zak,if_pos ⟨h.disk,hp,ZFK hn,by rw [h.late];omega⟩]
 have hd:=(Zcv hw).1;have hput:putN w n=some (⟨⟨w.Zc.Zv,w.Zc.Zm++[⟨2+(k:Int),Zcf n⟩]⟩,IntKind.i64.wrap (w.Zs+1),w.ZH,w.Zg,w.Zf++[w.Zs]⟩,2+(k:Int)):=by
  rw [putN,if_pos hn,hg];simp only;rw [if_neg (by rw [h.next];omega),h.next,hw]
 refine ⟨_,hput,hd,h.pages,by simp [h.late],h.us,?_,by simp [h.fr]⟩;simp only;rw [h.next,Zad (by omega) (by omega)];omega
theorem ZFI:∀ {ns:List Z1} {w:ZS} {k:Nat},Lin w k→k+ns.length≤38→(∀n∈ns,ZaA n)→
  ∃w' ks,putS w ns=some (w',ks)∧Lin w' (k+ns.length)∧ks.map (·.1)=ns.map Zah∧ks.map (·.2)=(List.range ns.length).map fun i:Nat=>2+(k:Int)+i
 |[],w,k,h,_,_=>⟨w,[],rfl,h,rfl,rfl⟩
 |n::ns,w,k,h,hk,hn=>by
  rw [List.length_cons] at hk;obtain ⟨w1,h1,h2⟩:=ZFO h (by omega) (hn n (by simp));obtain ⟨w2,ks,g1,g2,g3,g4⟩:=ZFI (ns:=ns) h2 (by omega) (fun m hm=>hn m (by simp [hm]));refine ⟨w2,(Zah n,2+(k:Int))::ks,?_,?_,?_,?_⟩
  ·rw [putS,h1];simp only;rw [g1]
  ·have:k+(n::ns).length=k+1+ns.length:=by simp;omega
   rw [this];exact g2
  ·simp [g3]
  ·rw [List.map_cons,g4,List.length_cons,List.range_succ_eq_map];simp only [List.map_cons,List.map_map,List.cons.injEq];refine ⟨by simp,List.map_congr_left fun i _=>?_⟩;simp only [Function.comp_apply];omega
theorem ZFD {α:Type}:∀(m:Nat) (l:List α),l.length≤m→∀b∈ZaR l,b.Sublist l∧1≤b.length∧b.length≤4
 |0,l,h,b,hb=>by
  have:l=[]:=List.length_eq_zero_iff.1 (by omega);subst this;simp [ZaR] at hb
 |m+1,l,h,b,hb=>by
  by_cases hl:l=[]
  ·subst hl;simp [ZaR] at hb
  ·have hp:=List.length_pos_iff.2 hl;rw [Zcc hl] at hb;rcases List.mem_cons.1 hb with rfl|hb
   ·exact ⟨List.take_sublist _ _,by rw [List.length_take];omega,by rw [List.length_take];omega⟩
   ·obtain ⟨h1,h2,h3⟩:=ZFD m (l.drop 4) (by rw [List.length_drop];omega) b hb;exact ⟨h1.trans (List.drop_sublist _ _),h2,h3⟩
theorem ZFE {α:Type}:∀(m:Nat) (l:List α),l.length≤m→(ZaR l).length=(l.length+3) / 4
 |0,l,h=>by
  have:l=[]:=List.length_eq_zero_iff.1 (by omega);subst this;simp [ZaR]
 |m+1,l,h=>by
  by_cases hl:l=[]
  ·subst hl;simp [ZaR]
  ·have hp:=List.length_pos_iff.2 hl;rw [Zcc hl,List.length_cons,ZFE m (l.drop 4) (by rw [List.length_drop];omega),List.length_drop];omega
theorem ZFG {α β:Type} {f:List α→β} {g:α→β} (hf:∀x l,f (x::l)=g x):∀(m:Nat) (l:List α),l.length≤m→((ZaR l).map f).Sublist (l.map g)
 |0,l,h=>by
  have:l=[]:=List.length_eq_zero_iff.1 (by omega);subst this;simp [ZaR]
 |m+1,l,h=>by
  cases l with
  |nil=>simp [ZaR]
  |cons x r=>
   rw [Zcc (by simp),List.map_cons,List.map_cons];rw [show (x::r).take 4=x::r.take 3 from rfl,hf,show (x::r).drop 4=r.drop 3 from rfl];exact ((ZFG hf m (r.drop 3) (by rw [List.length_drop];rw [List.length_cons] at h;omega)).trans ((List.drop_sublist 3 r).map g)).cons_cons _
structure ZFM (ks:List GKid):Prop where
 asc:ascK (ks.map (·.Zr))
 small:∀k∈ks,k.Zr.length≤24
 page:∀k∈ks,2≤k.Zl∧k.Zl≤39
 nodup:(ks.map (·.Zl)).Nodup
theorem ZFP {ks b:List GKid} (h:ZFM ks) (hb:b.Sublist ks) (h1:1≤b.length∧b.length≤4):ZaA (kidB b):=by
 refine (Ze4 rfl).2 ⟨by simpa [kidB] using h1,?_,fun k hk=>?_,by simp [kidB],rfl,fun p hp=>?_,?_⟩
 ·exact List.Pairwise.sublist (hb.map _) h.asc
 ·obtain ⟨q,hq,rfl⟩:=List.mem_map.1 hk;exact h.small q (hb.subset hq)
 ·obtain ⟨q,hq,rfl⟩:=List.mem_map.1 hp;exact h.page q (hb.subset hq)
 ·exact (hb.map _).nodup h.nodup
theorem ZFN {l b:List ZR} (ha:ascP l) (hs:∀p∈l,p.Zi.length≤24∧p.ZI.length≤24) (hb:b.Sublist l) (h1:1≤b.length∧b.length≤4):ZaA (Za2 b):=by
 refine (ZgD rfl).2 ⟨by simpa [Za2] using h1,?_,fun k hk=>?_,by simp [Za2],fun v hv=>?_,rfl⟩
 ·exact List.Pairwise.sublist (hb.map _) (ZhF.1 ha)
 ·obtain ⟨q,hq,rfl⟩:=List.mem_map.1 hk;exact (hs q (hb.subset hq)).1
 ·obtain ⟨q,hq,rfl⟩:=List.mem_map.1 hv;exact (hs q (hb.subset hq)).2
theorem ZFL {ks:List (Key×Int)} {names:List Key} {k m:Nat} (h1:ks.map (·.1)=names) (ha:ascK names) (hs:∀x∈names,x.length≤24) (h2:ks.map (·.2)=(List.range m).map fun i:Nat=>2+(k:Int)+i) (hm:k+m≤38):ZFM (ks.map Zpc):=by
 have e1:(ks.map Zpc).map (·.Zr)=names:=by rw [←h1,List.map_map];rfl
 have e2:(ks.map Zpc).map (·.Zl)=(List.range m).map fun i:Nat=>2+(k:Int)+i:=by rw [←h2,List.map_map];rfl
 refine ⟨by rw [e1];exact ha,fun q hq=>hs _ (by rw [←e1];exact List.mem_map.2 ⟨q,hq,rfl⟩),fun q hq=>?_,?_⟩
 ·have:q.Zl∈(ks.map Zpc).map (·.Zl):=List.mem_map.2 ⟨q,hq,rfl⟩;rw [e2] at this;obtain ⟨i,hi,e⟩:=List.mem_map.1 this;have:=List.mem_range.1 hi;omega
 ·rw [e2];exact List.Pairwise.map _ (fun a b h=>by omega) List.nodup_range
def cntB (n:Nat):Nat:=if n≤1 then 0 else (n+3) / 4+cntB ((n+3) / 4)
termination_by n
decreasing_by omega
theorem ZFH:∀ {f:Nat} {w:ZS} {k:Nat} {ks:List GKid},Lin w k→ZFM ks→ks.length≤f+1→k+cntB ks.length≤38→
  ∃w' ks',Zc2 f w ks=some (w',ks')∧Lin w' (k+cntB ks.length)
 |0,w,k,ks,h,hg,hf,hc=>⟨w,ks,rfl,by rw [cntB,if_pos (by omega)];exact h⟩
 |f+1,w,k,ks,h,hg,hf,hc=>by
  rw [Zc2];by_cases h1:1<ks.length
  ·rw [if_pos h1];have hcn:=ZFE ks.length ks (Nat.le_refl _);rw [cntB,if_neg (by omega)] at hc ⊢;have hbs:∀b∈ZaR ks,b≠ []:=Zkf ks.length ks (Nat.le_refl _);rw [Zlf hbs];obtain ⟨w1,k1,g1,g2,g3,g4⟩:=ZFI (ns:=(ZaR ks).map kidB) h (by rw [List.length_map,hcn];omega) (fun n hn=>by
    obtain ⟨b,hb,rfl⟩:=List.mem_map.1 hn;obtain ⟨s1,s2⟩:=ZFD ks.length ks (Nat.le_refl _) b hb;exact ZFP hg s1 s2)
   rw [g1];simp only [Option.map_some,List.nil_append];rw [List.length_map,hcn] at g2 g4;have hhd:=ZFG (f:=fun b=>Zah (kidB b)) (g:=ZhI.Zr) (fun x l=>rfl) ks.length ks (Nat.le_refl _);have hgood:ZFM (k1.map Zpc):=ZFL g3 (by rw [List.map_map];exact List.Pairwise.sublist hhd hg.asc) (fun x hx=>by
    rw [List.map_map] at hx;obtain ⟨q,hq,rfl⟩:=List.mem_map.1 (hhd.subset hx);exact hg.small q hq) g4 (by omega)
   have hl1:(k1.map Zpc).length=(ks.length+3) / 4:=by
    have:=congrArg List.length g4;simpa using this
   obtain ⟨w',ks',e1,e2⟩:=ZFH (f:=f) g2 hgood (by rw [hl1];omega) (by rw [hl1];omega);refine ⟨w',ks',e1,?_⟩;rw [hl1] at e2;rw [←Nat.add_assoc];exact e2
  ·rw [if_neg h1];exact ⟨w,ks,rfl,by rw [cntB,if_pos (by omega)];exact h⟩
def cntL (n:Nat):Nat:=(n+3) / 4+cntB ((n+3) / 4)
theorem ZFQ {w:ZS} {l:List ZR} (h:Lin w 0) (ha:ascP l) (hs:∀p∈l,p.Zi.length≤24∧p.ZI.length≤24) (hl:cntL l.length≤38):∃w' r,ZhC w l=some (w',r)∧Lin w' (cntL l.length):=by
 have hcn:=ZFE l.length l (Nat.le_refl _);have hbs:∀b∈ZaR l,b≠ []:=Zkf l.length l (Nat.le_refl _);unfold cntL at hl;obtain ⟨w1,k1,g1,g2,g3,g4⟩:=ZFI (ns:=(ZaR l).map Za2) h (by rw [List.length_map,hcn];omega) (fun n hn=>by
  obtain ⟨b,hb,rfl⟩:=List.mem_map.1 hn;obtain ⟨s1,s2⟩:=ZFD l.length l (Nat.le_refl _) b hb;exact ZFN ha hs s1 s2)
 rw [List.length_map,hcn] at g2 g4;have hhd:=ZFG (f:=fun b=>Zah (Za2 b)) (g:=ZR.Zi) (fun x l=>rfl) l.length l (Nat.le_refl _);have hgood:ZFM (k1.map Zpc):=ZFL g3 (by rw [List.map_map];exact List.Pairwise.sublist hhd (ZhF.1 ha)) (fun x hx=>by
  rw [List.map_map] at hx;obtain ⟨q,hq,rfl⟩:=List.mem_map.1 (hhd.subset hx);exact (hs q hq).1) g4 (by omega)
 have hl1:(k1.map Zpc).length=(l.length+3) / 4:=by
  have:=congrArg List.length g4;simpa using this
 obtain ⟨w',ks',e1,e2⟩:=ZFH (f:=l.length) g2 hgood (by rw [hl1];omega) (by rw [hl1];omega);refine ⟨w',page1 ks',?_,?_⟩
 ·rw [ZhC,if_pos (ZhF.1 ha),ZjL hbs,g1];simp only [Option.map_some,List.nil_append];rw [e1]
 ·rw [hl1] at e2;unfold cntL;simpa using e2
end Go.Rx

