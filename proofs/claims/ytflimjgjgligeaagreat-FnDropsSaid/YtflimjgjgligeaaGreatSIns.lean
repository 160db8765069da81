/-
  Part RxIns: lemmas on an evaluator over plain data of the model's code, plain laws on lists and numbers, or contracts of functions of the program; each lemma names its conditions.
-/
import Derived.Test.YtflimjgjgligeaaGreatSE1
import Derived.Test.YtflimjgjgligeaaGreatSE2
import Derived.Test.YtflimjgjgligeaaGreatSE3
import Derived.Test.YtflimjgjgligeaaGreatSE4
import Derived.Test.YtflimjgjgligeaaGreatSE5
import Derived.Test.YtflimjgjgligeaaGreatSE6
import Derived.Test.YtflimjgjgligeaaGreatSP2
import Derived.Test.YtflimjgjgligeaaGreatSR0
import Derived.Test.YtflimjgjgligeaaGreatSSort
import Derived.Shelf.Spec.SlicesInsert
import Derived.Shelf.Spec.SlicesInsertGrow
import Derived.Shelf.Slices.Delete

set_option linter.unusedSimpArgs false
set_option linter.unusedVariables false
namespace Go.Rx
open Go Go.RowKit Go.Shelf Go.Proofs
structure ZDt (w:World) (b o c:Nat) (xs:List Value) (e:Ending) (w':World):Prop where
 same:w'.os=w.os∧w'.tape=w.tape∧w'.output=w.output
 size:w.heap.size≤w'.heap.size
 other:∀k,k<w.heap.size→k≠b→w'.heap[k]? =w.heap[k]?
 row:(∃(cs cs':Array Value) (T:TypeId) (fr:Nat×Nat),e= .returned (.slice (some ⟨b,o,none⟩) xs.length c)∧xs.length≤c∧w.heap[b]? =some (.cells cs T fr)∧w'.heap[b]? =some (.cells cs' T fr)∧cs'.size=cs.size∧
   ∀(k:Nat) (v:Value),xs[k]? =some v→cs'[o+k]? =some v)∨
  ∃(cs':Array Value) (T:TypeId) (c':Nat),e= .returned (.slice (some ⟨w.heap.size,0,none⟩) xs.length c')∧w'.heap[w.heap.size]? =some (.cells cs' T (0,0))∧(b<w.heap.size→w'.heap[b]? =w.heap[b]?)∧cs'.size=c'∧xs.length≤c'∧c'≤LEN∧
   ∀(k:Nat) (v:Value),xs[k]? =some v→cs'[k]? =some v
theorem ZDF {w w':World} {ok:Nat→Prop} {lam:Nat→Option Nat} {H:List (Nat×AObj)} {b o c n:Nat} {xs vs:List Value} {ys:List (List D)} {outs:List V} {e:Ending} (hn:n=ys.length) (hout:∀x∈outs,x= .dead)
  (hO:HOK w ok lam (hget H)) (hp:ZDt w b o c xs e w') (hin:b<w.heap.size→(∃n,hget H n≠none∧lam n=some b))
  (hb:∀cs T fr,w.heap[b]? =some (.cells cs T fr)→(cs.size≤LEN*1∧∀i,w.frozen? ⟨b,i,none⟩=false)∧(0<c→o+c≤cs.size)) (ho:c=0∨o=0)
  (hl:ys.length=xs.length) (hm:∀e∈ys,e.length=1) (hmax:ys.length≤MAX)
  (hel:∀(i:Nat) e d,ys[i]? =some e→e[0]? =some d→∃u,xs[i]? =some u∧DRel w ok d u):
  ∃v lam' ok',e= .returned v∧Fr (fun b=>∃n,hget H n≠none∧lam n=some b) w w'∧HOK w' ok' lam' (hget [(0,.arr 1 ys)])∧VRel w' ok' lam' (hget [(0,.arr 1 ys)]) (.own 0 0 n) v∧
   (∀(i:Nat) x v,outs[i]? =some x→vs[i]? =some v→VRel w' ok' lam' (hget [(0,.arr 1 ys)]) x v)∧
   (∀b,ok' b→ok b∨(∃n,hget H n≠none∧lam n=some b)∨w.heap.size≤b)∧
   (∀n b,hget [(0,AObj.arr 1 ys)] n≠none→lam' n=some b→(∃n',hget H n'≠none∧lam n'=some b)∨w.heap.size≤b):=by
 subst hn;obtain ⟨⟨m1,m2,m3⟩,hsz,hoth,hrow⟩:=hp;have hdead:∀ {w' ok' lam' H'} (i:Nat) x v,outs[i]? =some x→vs[i]? =some v→VRel w' ok' lam' H' x v:=fun i x v h1 _=>by rw [hout x (List.mem_of_getElem? h1)];exact .dead
 have hokw:∀b',ok b'→w'.heap[b']? =w.heap[b']? :=fun b' h=>by
  have hlt:=hO.oklt b' h;refine hoth b' hlt fun e=>?_;subst e;obtain ⟨n,h1,h2⟩:=hin hlt;exact hO.dis n b' h1 h2 h
 have hd:∀d u,DRel w ok d u→DRel w' ok d u:=fun d u h=>h.mono hokw fun _ h=>h
 rcases hrow with ⟨cs,cs',T,fr,rfl,hc,g1,g2,g3,g4⟩|⟨cs',T,c',rfl,g1,g2,g3,g4,g5,g6⟩
 ·have hlt:=Zlc g1;obtain ⟨n,hn1,hn2⟩:=hin hlt;obtain ⟨⟨f1,f2⟩,f3⟩:=hb cs T fr g1;have f3:c≤cs.size:=by
   rcases Nat.eq_zero_or_pos c with h|h
   ·omega
   ·have:=f3 h;omega
  refine ⟨_,fun _=>some b,ok,rfl,⟨m1,m2,m3,hsz,fun k hk hu=>hoth k hk fun e=>hu ⟨n,hn1,e▸hn2⟩,ZmV g2 (fun cs3 T3 fr3 e=>by rw [g1] at e;cases e;exact g3) hoth⟩,
   ⟨fun n n' b' h1 h2 _ _=>by rw [ZzR h1,ZzR h2],fun n' b' h1 h2=>by cases h2;exact Nat.lt_of_lt_of_le hlt hsz,fun n' b' h1 h2=>by cases h2;exact hO.dis n b hn1 hn2,fun b' h1=>Nat.lt_of_lt_of_le (hO.oklt b' h1) hsz,fun n' o' h=>?_⟩,
   .own ⟨_,_,_,rfl⟩ fun m zs hh=>?_,hdead,fun b' hb'=> .inl hb',fun n' b' _ h2=> .inl ⟨n,hn1,by cases h2;exact hn2⟩⟩
  ·obtain ⟨rfl,rfl⟩:=ZzS h;refine ⟨hm,hmax,.inr ⟨b,cs',T,fr,rfl,g2,⟨by rw [g3];exact f1,fun i=>?_⟩,by rw [g3,hl];omega,fun i e j d h1 h2=>?_⟩⟩
   ·have:=f2 i;simp only [World.frozen?,g1] at this;simpa only [World.frozen?,g2] using this
   ·have hj:j=0:=by have h3:=(List.getElem?_eq_some_iff.1 h2).1;rw [hm e (List.mem_of_getElem? h1)] at h3;omega
    subst hj;obtain ⟨u,h3,h4⟩:=hel i e d h1 h2;have hi:=(List.getElem?_eq_some_iff.1 h3).1;have ho0:o=0:=by rcases ho with ho|ho<;>omega
    subst ho0;exact ⟨u,by simpa using g4 i u h3,hd d u h4⟩
  ·obtain ⟨_,e⟩:=ZzS hh;cases e;refine ⟨by simp,.inr ⟨b,o,c,cs',T,fr,rfl,by rw [hl],by rw [hl];exact hc,ho.imp id (fun e=>by simp [e]),g2,by rw [g3];omega⟩⟩
 ·have hge:=Zlc g1;refine ⟨_,fun _=>some w.heap.size,ok,rfl,⟨m1,m2,m3,hsz,fun k hk hu=>by
    by_cases e:k=b
    ·subst e;exact g2 hk
    ·exact hoth k hk e,ZhN fun k hk=>by
    by_cases e:k=b
    ·subst e;exact g2 hk
    ·exact hoth k hk e⟩,
   ⟨fun n n' b' h1 h2 _ _=>by rw [ZzR h1,ZzR h2],fun n' b' h1 h2=>by cases h2;exact hge,fun n' b' h1 h2 h3=>by cases h2;exact absurd (hO.oklt _ h3) (Nat.lt_irrefl _),fun b' h1=>Nat.lt_of_lt_of_le (hO.oklt b' h1) hsz,fun n' o' h=>?_⟩,
   .own ⟨_,_,_,rfl⟩ fun m zs hh=>?_,hdead,fun b' hb'=> .inl hb',fun n' b' _ h2=> .inr (by cases h2;exact Nat.le_refl _)⟩
  ·obtain ⟨rfl,rfl⟩:=ZzS h;refine ⟨hm,hmax,.inr ⟨_,cs',T,(0,0),rfl,g1,⟨by omega,fun i=>frozen_of_row _ _ i _ T g1⟩,by omega,fun i e j d h1 h2=>?_⟩⟩;have hj:j=0:=by have h3:=(List.getElem?_eq_some_iff.1 h2).1;rw [hm e (List.mem_of_getElem? h1)] at h3;omega
   subst hj;obtain ⟨u,h3,h4⟩:=hel i e d h1 h2;exact ⟨u,by simpa using g6 i u h3,hd d u h4⟩
  ·obtain ⟨_,e⟩:=ZzS hh;cases e;exact ⟨by simp,.inr ⟨_,0,c',cs',T,(0,0),rfl,by rw [hl],by omega,.inr (by simp),g1,by omega⟩⟩
theorem ZD6 (w:World) (o:Obj) (i:Nat) (h:i<w.heap.size):(w.alloc o).heap[i]? =w.heap[i]? :=by
 simp only [World.alloc];rw [Array.getElem?_push,if_neg (by omega)]
theorem ahnew (w:World) (o:Obj):(w.alloc o).heap[w.heap.size]? =some o:=by
 simp only [World.alloc];rw [Array.getElem?_push,if_pos rfl]
theorem ZD5 {l:List Value} {k:Nat}:(⟨l⟩:Array Value)[k]? =l[k]? :=by simp
theorem ZDz {l:List Value} {v:Value} {i k:Nat} (hi:i≤l.length):(l.take i++v::l.drop i)[k]? =if k<i then l[k]? else if k=i then some v else l[k - 1]? :=by
 have h1:(l.take i).length=i:=by simp;omega
 split
 ·rw [List.getElem?_append_left (by omega),List.getElem?_take,if_pos (by omega)]
 ·rw [List.getElem?_append_right (by omega),h1];split
  ·subst k;simp
  ·obtain ⟨m,rfl⟩:∃m,k=i+1+m:=⟨k - i - 1,by omega⟩;rw [show i+1+m - i=m+1 by omega,List.getElem?_cons_succ,List.getElem?_drop,show i+1+m - 1=i+m by omega]
theorem ZDx {l:List Value} {v:Value} {i:Nat} (hi:i≤l.length):(l.take i++v::l.drop i).length=l.length+1:=by simp;omega
theorem arr_of {cs:Array Value}:cs=⟨cs.toList⟩:=rfl
theorem ZDy {w:World} {b o c i:Nat} {l:List Value} {v:Value} {cs:Array Value} {T:TypeId} {fr:Nat×Nat} (hb:w.heap[b]? =some (.cells cs T fr)) (hi:i≤l.length) (hroom:l.length+1≤c) (hc:o+c≤cs.size)
  (hcs:∀(j:Nat) (u:Value),l[j]? =some u→cs[o+j]? =some u) {e:Ending} {w0 w':World} (h0:w0.heap=w.heap∧w0.os=w.os∧w0.tape=w.tape∧w0.output=w.output)
  (he:e= .returned (.slice (some ⟨b,o,none⟩) (l.length+1) c)) (hw:w'=(w0.setCells b (o+(i+1)) (l.drop i)).setCells b (o+i) [v]):ZDt w b o c (l.take i++v::l.drop i) e w':=by
 have hsz:cs.toList.length=cs.size:=rfl;have e1:=ZcF b T fr (l.drop i) (o+(i+1)) w0 cs.toList (by rw [h0.1];exact hb) (by simp;omega);have hl1:(splice cs.toList (o+(i+1)) (l.drop i)).length=cs.size:=by simp [splice];omega
 have e2:=ZcF b T fr [v] (o+i) _ _ e1 (by rw [hl1];simp;omega);obtain ⟨a1,a2,a3,a4⟩:=ZdA b (l.drop i) (o+(i+1)) w0;obtain ⟨b1,b2,b3,b4⟩:=ZdA b [v] (o+i) (w0.setCells b (o+(i+1)) (l.drop i));rw [←hw] at e2 b1 b2 b3 b4;refine ⟨⟨by rw [b2,a2,h0.2.1],by rw [b3,a3,h0.2.2.1],by rw [b4,a4,h0.2.2.2]⟩,by rw [b1,a1,h0.1];exact Nat.le_refl _,fun k _ hk=>by rw [hw,Zbj b _ _ _ k hk,Zbj b _ _ _ k hk,h0.1],.inl ⟨cs,_,T,fr,by rw [ZDx hi];exact he,by rw [ZDx hi];exact hroom,hb,e2,by simp [splice] at hl1 ⊢;omega,fun k u hk=>?_⟩⟩;rw [ZDz hi] at hk;have g1:=ZhM (l:=splice cs.toList (o+(i+1)) (l.drop i)) (off:=o+i) (vs:=[v]) (k:=o+k) (by rw [hl1];simp;omega)
 have g2:=ZhM (l:=cs.toList) (off:=o+(i+1)) (vs:=l.drop i) (k:=o+k) (by simp;omega);rw [ZD5,g1];simp only [List.length_cons,List.length_nil,List.length_drop] at g2 ⊢;by_cases h1:k<i
 ·rw [if_pos h1] at hk;rw [if_pos (by omega),g2,if_pos (by omega),Array.getElem?_toList];exact hcs k u hk
 ·rw [if_neg h1] at hk;rw [if_neg (by omega)];by_cases h2:k=i
  ·rw [if_pos h2] at hk;rw [if_pos (by omega),show o+k - (o+i)=0 by omega];exact hk
  ·rw [if_neg h2] at hk;have hlt:=(List.getElem?_eq_some_iff.1 hk).1;rw [if_neg (by omega),g2,if_neg (by omega),if_pos (by omega),List.getElem?_drop,show i+(o+k - (o+(i+1)))=k - 1 by omega];exact hk
theorem ZDD {w:World} {b o c:Nat} {l:List Value} {v:Value} {cs:Array Value} {T:TypeId} {fr:Nat×Nat} (hb:w.heap[b]? =some (.cells cs T fr)) (hroom:l.length+1≤c) (hc:o+c≤cs.size)
  (hcs:∀(j:Nat) (u:Value),l[j]? =some u→cs[o+j]? =some u) {e:Ending} {w':World}
  (he:e= .returned (.slice (some ⟨b,o,none⟩) (l.length+1) c)) (hw:w'=w.setCells b (o+l.length) [v]):ZDt w b o c (l.take l.length++v::l.drop l.length) e w':=
 ZDy hb (Nat.le_refl _) hroom hc hcs ⟨rfl,rfl,rfl,rfl⟩ he (by rw [List.drop_length];exact hw)
theorem ZDs {w:World} {b o c c' n:Nat} {l:List Value} {v:Value} {z:Array Value} {T:TypeId} (hz:z.size=1) (hn:l.length=n) (hc:n+1≤c') (hc2:c'≤LEN) {e:Ending} {w':World}
  (he:e= .returned (.slice (some ⟨w.heap.size,0,none⟩) (n+1) c')) (hw:w'=w.drew.alloc (.cells ((l++[v]).toArray++Builtin.zeroCells z (c' - (n+1))) T)):ZDt w b o c (l.take n++v::l.drop n) e w':=by
 subst hn;have hx:l.take l.length++v::l.drop l.length=l++[v]:=by simp
 rw [hx];refine ⟨by subst hw;exact ⟨rfl,rfl,rfl⟩,by subst hw;simp,fun k hk _=>by subst hw;exact ZD6 w.drew _ k hk,.inr ⟨_,T,c',by simpa using he,by subst hw;exact ahnew w.drew _,fun hk=>by subst hw;exact ZD6 w.drew _ b hk,by simp [size_zeroCells,hz];omega,by simpa using hc,hc2,fun k u hk=>?_⟩⟩;have:=(List.getElem?_eq_some_iff.1 hk).1;rw [Array.getElem?_append_left (by simpa using this)];simpa using hk
theorem ZDw {w:World} {b o c c' i n:Nat} {l:List Value} {v:Value} {z:Array Value} {T:TypeId} (hz:z.size=1) (hn:l.length=n) (hi:i<n) (hc:n+1≤c') (hc2:c'≤LEN) {e:Ending} {w':World}
  (he:e= .returned (.slice (some ⟨w.heap.size,0,none⟩) (n+1) c'))
  (hw:w'=(((w.alloc (.cells ((l.take i).toArray++Builtin.zeroCells z (n+1 - i)++Builtin.zeroCells z (c' - (n+1))) T)).drew.setCells w.heap.size i [v]).drew).setCells w.heap.size (i+1) (l.drop i)):ZDt w b o c (l.take i++v::l.drop i) e w':=by
 subst hn;generalize hcs:(l.take i).toArray++Builtin.zeroCells z (l.length+1 - i)++Builtin.zeroCells z (c' - (l.length+1))=cs at hw;have hsz:cs.toList.length=c':=by
  have e:cs.toList.length=cs.size:=rfl;rw [e,←hcs];simp [size_zeroCells,hz];omega
 have hpre:∀k u,k<i→l[k]? =some u→cs.toList[k]? =some u:=fun k u hk hu=>by
  rw [←hcs,Array.getElem?_toList,Array.append_assoc,Array.getElem?_append_left (by simp;omega)];simp [List.getElem?_take,hk,hu]
 have e0:(w.alloc (.cells cs T)).drew.heap[w.heap.size]? =some (.cells ⟨cs.toList⟩ T (0,0)):=ahnew w _;have e1:=ZcF w.heap.size T (0,0) [v] i _ cs.toList e0 (by rw [hsz];simp;omega);have hl1:(splice cs.toList i [v]).length=c':=by simp [splice] at hsz ⊢;omega
 generalize hW:(w.alloc (.cells cs T)).drew.setCells w.heap.size i [v]=W at e1 hw;obtain ⟨a1,a2,a3,a4⟩:=ZdA w.heap.size [v] i (w.alloc (.cells cs T)).drew;rw [hW] at a1 a2 a3 a4;have e2:=ZcF w.heap.size T (0,0) (l.drop i) (i+1) W.drew _ e1 (by rw [hl1];simp;omega);obtain ⟨b1,b2,b3,b4⟩:=ZdA w.heap.size (l.drop i) (i+1) W.drew;have hold:∀k,k<w.heap.size→w'.heap[k]? =w.heap[k]? :=fun k hk=>by
  rw [hw,Zbj _ _ _ _ k (by omega)];show W.heap[k]? =_;rw [←hW,Zbj _ _ _ _ k (by omega)];exact ZD6 w _ k hk
 rw [←hw] at e2 b1 b2 b3 b4;refine ⟨⟨b2.trans a2,b3.trans a3,b4.trans a4⟩,by rw [b1];show w.heap.size≤W.heap.size;rw [a1];simp,fun k hk _=>hold k hk,.inr ⟨_,T,c',by rw [ZDx (by omega)];exact he,e2,hold b,by simp [splice] at hl1 ⊢;omega,by rw [ZDx (by omega)];exact hc,hc2,fun k u hk=>?_⟩⟩;rw [ZDz (by omega)] at hk;have g1:=ZhM (l:=splice cs.toList i [v]) (off:=i+1) (vs:=l.drop i) (k:=k) (by rw [hl1];simp;omega);have g2:=ZhM (l:=cs.toList) (off:=i) (vs:=[v]) (k:=k) (by rw [hsz];simp;omega);rw [ZD5,g1];simp only [List.length_cons,List.length_nil,List.length_drop] at g2 ⊢
 by_cases h1:k<i
 ·rw [if_pos h1] at hk;rw [if_pos (by omega),g2,if_pos h1];exact hpre k u h1 hk
 ·rw [if_neg h1] at hk;by_cases h2:k=i
  ·rw [if_pos h2] at hk;rw [if_pos (by omega),g2,if_neg h1,if_pos (by omega),h2,Nat.sub_self];exact hk
  ·rw [if_neg h2] at hk;have hlt:=(List.getElem?_eq_some_iff.1 hk).1;rw [if_neg (by omega),if_pos (by omega),List.getElem?_drop,show i+(k - (i+1))=k - 1 by omega];exact hk
structure ZDA (P:Program) (f:FuncId):Prop where
 arr:∀(b o c i vb vc:Nat) (l:List Value) (v:Value) (w:World) (cs cv:Array Value) (T Tv:TypeId) (fr fv:Nat×Nat),l.length≤1048576→i≤l.length→l.length≤c→c≤LEN→vb≠b→w.heap[b]? =some (.cells cs T fr)→(0<c→o+c≤cs.size)→
  (∀j,w.frozen? ⟨b,j,none⟩=false)→(∀(j:Nat) (u:Value),l[j]? =some u→cs[o+j]? =some u)→w.heap[vb]? =some (.cells cv Tv fv)→cv[0]? =some v→(∀j,w.frozen? ⟨vb,j,none⟩=false)→(∀u∈l,u.oneCell'=true)→v.oneCell'=true→
  Calls P f #[.slice (some ⟨b,o,none⟩) l.length c,.int .i64 i,.slice (some ⟨vb,0,none⟩) 1 vc] w (ZDt w b o c (l.take i++v::l.drop i))
 nil:∀(vb vc:Nat) (v:Value) (w:World) (cv:Array Value) (Tv:TypeId) (fv:Nat×Nat),w.heap[vb]? =some (.cells cv Tv fv)→cv[0]? =some v→v.oneCell'=true→
  Calls P f #[.slice none 0 0,.int .i64 (0:Nat),.slice (some ⟨vb,0,none⟩) 1 vc] w (ZDt w w.heap.size 0 0 ([]++v::[]))
theorem ZDv {w:World} {b o:Nat} {cs:Array Value} {T:TypeId} {fr:Nat×Nat} {l:List Value} (hb:w.heap[b]? =some (.cells cs T fr)) (h:∀(j:Nat) (u:Value),l[j]? =some u→cs[o+j]? =some u):∀(j:Nat) (u:Value),l[j]? =some u→w.cell? ⟨b,o+j,none⟩=some u:=fun j u hj=>by
 rw [cell_of_row w b _ cs T fr hb];exact h j u hj
theorem ZDu {v:Value} {P:Nat→Value→Prop} (h:P 0 v):∀(j:Nat) u,[v][j]? =some u→P j u:=fun j u hj=>by
 cases j with
 |zero=>cases hj;exact h
 |succ j=>cases hj
theorem ins_int {P:Program} {ρ:Go.Shelf.Ren} (L:Lays2.n21 P ρ):ZDA P (ρ.f 21):=by
 refine ⟨fun b o c i vb vc l v w cs cv T Tv fr fv hl hi hc hc2 hne hb hoc hfz hcs hvb hv hfv h1 hv1=>?_,fun vb vc v w cv Tv fv hvb hv hv1=>?_⟩
 ·have hvs:=ZDu (P:=fun j u=>w.cell? ⟨vb,0+j,none⟩=some u) (v:=v) (by rw [cell_of_row w vb _ cv Tv fv hvb];exact hv);have h1v:∀u∈ [v],u.oneCell'=true:=fun u hu=>by simp at hu;subst hu;exact hv1
  have hsp:∀j,j<c→(w.cell? ⟨b,o+j,none⟩).isSome=true:=fun j hj=>by rw [cell_of_row w b _ cs T fr hb];have:=hoc (by omega);simp;omega
  by_cases hr:l.length+1≤c
  ·by_cases h:i<l.length
   ·refine (Any2.slices_Insert_int_shift L b o l.length c i vb 0 1 vc l [v] w h (by omega) hr hc2 hne rfl rfl (ZDv hb hcs) (fun j hj=>hsp j (by omega)) (fun j _=>hfz _) hvs h1 h1v Tv T cv.size cs.size (by simp [World.shape?,hvb]) (by simp [World.shape?,hb]) (by omega) (hfv _) (hfv _)).mono ?_;rintro e w' ⟨he,hw⟩;exact ZDy hb hi hr (hoc (by omega)) hcs (w0:=w.drew) ⟨rfl,rfl,rfl,rfl⟩ he hw
   ·obtain rfl:i=l.length:=by omega
    refine (Any2.slices_Insert_int_end_room L b o l.length c vb 0 1 vc [v] w (by omega) hr hc2 rfl (fun j hj=>by rw [Nat.add_assoc];exact hsp _ (by omega)) (fun j _=>hfz _) hvs h1v).mono ?_;rintro e w' ⟨he,hw⟩;exact ZDD hb hr (hoc (by omega)) hcs he hw
  ·have hgl:=grownCap_le_maxLen w (l.length+1) c (ρ.t 3) (by unfold maxLen;omega);have hgg:=grownCap_ge w (l.length+1) c (ρ.t 3);by_cases h:i<l.length
   ·refine (Any2.slices_Insert_int_grow L b o l.length c i vb 0 1 vc l [v] w h (by omega) hc (by omega) (by omega) rfl rfl (ZDv hb hcs) hvs h1 h1v).mono ?_;rintro e w' ⟨he,hw⟩;exact ZDw (z:=(Value.int .i64 0).cells) rfl rfl h hgg hgl he hw
   ·obtain rfl:i=l.length:=by omega
    refine (Any2.slices_Insert_int_end_grow L (some ⟨b,o,none⟩) l.length c vb 0 1 vc l [v] w (by omega) hc (by omega) (by omega) rfl rfl (fun h=>by cases h) (fun a ha j u hj=>by cases ha;rw [Addr.add_lit];exact ZDv hb hcs j u hj) hvs h1v).mono ?_;rintro e w' ⟨he,hw⟩;exact ZDs (z:=(Value.int .i64 0).cells) rfl rfl hgg hgl he hw
 ·have hgl:=grownCap_le_maxLen w 1 0 (ρ.t 3) (by unfold maxLen;omega);have hgg:=grownCap_ge w 1 0 (ρ.t 3);refine (Any2.slices_Insert_int_end_grow L none 0 0 vb 0 1 vc [] [v] w (by omega) (by omega) (by omega) (by omega) rfl rfl (fun _=>rfl) (fun a ha=>by cases ha) (ZDu (P:=fun j u=>w.cell? ⟨vb,0+j,none⟩=some u) (v:=v) (by rw [cell_of_row w vb _ cv Tv fv hvb];exact hv)) (fun u hu=>by simp at hu;subst hu;exact hv1)).mono ?_;rintro e w' ⟨he,hw⟩;exact ZDs (l:=[]) (z:=(Value.int .i64 0).cells) rfl rfl hgg hgl he hw
theorem ins_str {P:Program} {ρ:Go.Shelf.Ren} (L:Lays2.n22 P ρ):ZDA P (ρ.f 22):=by
 refine ⟨fun b o c i vb vc l v w cs cv T Tv fr fv hl hi hc hc2 hne hb hoc hfz hcs hvb hv hfv h1 hv1=>?_,fun vb vc v w cv Tv fv hvb hv hv1=>?_⟩
 ·have hvs:=ZDu (P:=fun j u=>w.cell? ⟨vb,0+j,none⟩=some u) (v:=v) (by rw [cell_of_row w vb _ cv Tv fv hvb];exact hv);have h1v:∀u∈ [v],u.oneCell'=true:=fun u hu=>by simp at hu;subst hu;exact hv1
  have hsp:∀j,j<c→(w.cell? ⟨b,o+j,none⟩).isSome=true:=fun j hj=>by rw [cell_of_row w b _ cs T fr hb];have:=hoc (by omega);simp;omega
  by_cases hr:l.length+1≤c
  ·by_cases h:i<l.length
   ·refine (Any2.slices_Insert_string_shift L b o l.length c i vb 0 1 vc l [v] w h (by omega) hr hc2 hne rfl rfl (ZDv hb hcs) (fun j hj=>hsp j (by omega)) (fun j _=>hfz _) hvs h1 h1v Tv T cv.size cs.size (by simp [World.shape?,hvb]) (by simp [World.shape?,hb]) (by omega) (hfv _) (hfv _)).mono ?_;rintro e w' ⟨he,hw⟩;exact ZDy hb hi hr (hoc (by omega)) hcs (w0:=w.drew) ⟨rfl,rfl,rfl,rfl⟩ he hw
   ·obtain rfl:i=l.length:=by omega
    refine (Any2.slices_Insert_string_end_room L b o l.length c vb 0 1 vc [v] w (by omega) hr hc2 rfl (fun j hj=>by rw [Nat.add_assoc];exact hsp _ (by omega)) (fun j _=>hfz _) hvs h1v).mono ?_;rintro e w' ⟨he,hw⟩;exact ZDD hb hr (hoc (by omega)) hcs he hw
  ·have hgl:=grownCap_le_maxLen w (l.length+1) c (ρ.t 9) (by unfold maxLen;omega);have hgg:=grownCap_ge w (l.length+1) c (ρ.t 9);by_cases h:i<l.length
   ·refine (Any2.slices_Insert_string_grow L b o l.length c i vb 0 1 vc l [v] w h (by omega) hc (by omega) (by omega) rfl rfl (ZDv hb hcs) hvs h1 h1v).mono ?_;rintro e w' ⟨he,hw⟩;exact ZDw (z:=(Value.string ⟨#[]⟩).cells) rfl rfl h hgg hgl he hw
   ·obtain rfl:i=l.length:=by omega
    refine (Any2.slices_Insert_string_end_grow L (some ⟨b,o,none⟩) l.length c vb 0 1 vc l [v] w (by omega) hc (by omega) (by omega) rfl rfl (fun h=>by cases h) (fun a ha j u hj=>by cases ha;rw [Addr.add_lit];exact ZDv hb hcs j u hj) hvs h1v).mono ?_;rintro e w' ⟨he,hw⟩;exact ZDs (z:=(Value.string ⟨#[]⟩).cells) rfl rfl hgg hgl he hw
 ·have hgl:=grownCap_le_maxLen w 1 0 (ρ.t 9) (by unfold maxLen;omega);have hgg:=grownCap_ge w 1 0 (ρ.t 9);refine (Any2.slices_Insert_string_end_grow L none 0 0 vb 0 1 vc [] [v] w (by omega) (by omega) (by omega) (by omega) rfl rfl (fun _=>rfl) (fun a ha=>by cases ha) (ZDu (P:=fun j u=>w.cell? ⟨vb,0+j,none⟩=some u) (v:=v) (by rw [cell_of_row w vb _ cv Tv fv hvb];exact hv)) (fun u hu=>by simp at hu;subst hu;exact hv1)).mono ?_;rintro e w' ⟨he,hw⟩;exact ZDs (l:=[]) (z:=(Value.string ⟨#[]⟩).cells) rfl rfl hgg hgl he hw
theorem ZDG {w:World} {ok:Nat→Prop} {ys:List (List D)} {cs:Array Value} (hm:∀e∈ys,e.length=1) (h:∀(i:Nat) e (j:Nat) d,ys[i]? =some e→e[j]? =some d→∃c,cs[i*1+j]? =some c∧DRel w ok d c):
  ∃l:List Value,l.length=ys.length∧(∀(j:Nat) (u:Value),l[j]? =some u→cs[j]? =some u)∧∀(i:Nat) e d,ys[i]? =some e→e[0]? =some d→∃u,l[i]? =some u∧DRel w ok d u:=by
 have hex:∀i,i<ys.length→∃e d c,ys[i]? =some e∧e[0]? =some d∧cs[i]? =some c∧DRel w ok d c:=fun i hi=>by
  obtain ⟨e,he⟩:∃e,ys[i]? =some e:=⟨_,List.getElem?_eq_getElem hi⟩;have hl:=hm e (List.mem_of_getElem? he);obtain ⟨d,hd⟩:∃d,e[0]? =some d:=⟨_,List.getElem?_eq_getElem (by omega)⟩;obtain ⟨c,h1,h2⟩:=h i e 0 d he hd;exact ⟨e,d,c,he,hd,by simpa using h1,h2⟩
 have hsz:ys.length≤cs.size:=by
  cases hn:ys.length with
  |zero=>exact Nat.zero_le _
  |succ n=>
   obtain ⟨e,d,c,_,_,h3,_⟩:=hex n (by omega);have:=(Array.getElem?_eq_some_iff.1 h3).1;omega
 have hl:(cs.toList.take ys.length).length=ys.length:=by simp;omega
 refine ⟨cs.toList.take ys.length,hl,fun j u hj=>?_,fun i e d h1 h2=>?_⟩
 ·have:=(List.getElem?_eq_some_iff.1 hj).1;rw [List.getElem?_take,if_pos (by omega)] at hj;simpa using hj
 ·have hi:=(List.getElem?_eq_some_iff.1 h1).1;obtain ⟨e',d',c,h3,h4,h5,h6⟩:=hex i hi;rw [h1] at h3;cases h3;rw [h2] at h4;cases h4;exact ⟨c,by rw [List.getElem?_take,if_pos hi];simpa using h5,h6⟩
theorem ZDH {w:World} {ok:Nat→Prop} {ys:List (List D)} {l:List Value} (hl:l.length=ys.length) (hm:∀e∈ys,e.length=1) (h1:∀e∈ys,∀d∈e,d.one=true) (h:∀(i:Nat) e d,ys[i]? =some e→e[0]? =some d→∃u,l[i]? =some u∧DRel w ok d u):
  ∀u∈l,u.oneCell'=true:=fun u hu=>by
 obtain ⟨i,hi,rfl⟩:=List.mem_iff_getElem.1 hu;obtain ⟨e,he⟩:∃e,ys[i]? =some e:=⟨_,List.getElem?_eq_getElem (by omega)⟩;have hl:=hm e (List.mem_of_getElem? he);obtain ⟨d,hd⟩:∃d,e[0]? =some d:=⟨_,List.getElem?_eq_getElem (by omega)⟩;obtain ⟨v,h2,h3⟩:=h i e d he hd;rw [List.getElem?_eq_getElem hi] at h2;cases h2;exact h3.one (h1 e (List.mem_of_getElem? he) d (List.mem_of_getElem? hd))
theorem hget_two {o o':AObj} {n:Nat} (h:hget [(0,o),(1,o')] n≠none):n=0∨n=1:=by
 cases e:(0==n) with
 |true=>exact .inl (by simpa using (Eq.symm (by simpa using e)))
 |false=>
  cases e1:(1==n) with
  |true=>exact .inr (by simpa using (Eq.symm (by simpa using e1)))
  |false=>exact absurd (by simp only [hget,e,e1,cond_false]) h
theorem ZDI {P:Program} {f:FuncId} (hr:ZDA P f) (hK:ZzQ P f) (ys:List (List D)) (y:List D) (i:Nat) (hi:i≤ys.length) (hl:ys.length≤1048576) (h1:∀e∈ys,∀d∈e,d.one=true) (hy:∀d∈y,d.one=true):
  ZQ P f [.own 0 0 ys.length,.d (.int .i64 i),.own 1 0 1] [(0,.arr 1 ys),(1,.arr 1 [y])] [.dead,.dead,.dead] (.own 0 0 (ys.length+1)) [(0,.arr 1 (ys.take i++y::ys.drop i))]:=by
 refine ⟨hK,fun w vs lam ok hO hlen hrel=>?_⟩;obtain ⟨v0,v1,v2,rfl⟩:∃a b c,vs=[a,b,c]:=by
  match vs,hlen with
  |[a,b,c],_=>exact ⟨a,b,c,rfl⟩
 have r0:=hrel 0 _ _ rfl rfl;have r1:=hrel 1 _ _ rfl rfl;have r2:=hrel 2 _ _ rfl rfl;obtain ⟨o1,o2,o3⟩:=hO.obj 0 (.arr 1 ys) rfl;obtain ⟨p1,p2,p3⟩:=hO.obj 1 (.arr 1 [y]) rfl;obtain rfl:=int_of r1.inv_d;have n0:hget [(0,AObj.arr 1 ys),(1,AObj.arr 1 [y])] 0≠none:=by simp [hget]
 have n1:hget [(0,AObj.arr 1 ys),(1,AObj.arr 1 [y])] 1≠none:=by simp [hget]
 have h2:OwnV w lam 1 1 [y] 0 1 v2:=by cases r2 with|own _ h=>exact h 1 [y] rfl
 have h0:OwnV w lam 0 1 ys 0 ys.length v0:=by cases r0 with|own _ h=>exact h 1 ys rfl
 obtain ⟨_,hv⟩:=h2;rcases hv with ⟨_,_,hz⟩|⟨vb,vo,vc,cv,Tv,fv,g1,rfl,g3,g4,g5,g6⟩
 ·cases hz
 have hvo:vo=0:=by rcases g4 with g4|g4<;>omega
 subst hvo;rcases p3 with ⟨_,hz⟩|⟨vb',cv',Tv',fv',q1,q2,q3,q4,q5⟩
 ·cases hz
 rw [g1] at q1;cases q1;rw [g5] at q2;cases q2;have hyl:=p1 y (by simp);obtain ⟨d0,hd0⟩:∃d,y[0]? =some d:=⟨_,List.getElem?_eq_getElem (by omega)⟩;obtain ⟨u,hu,hud⟩:=q5 0 y 0 d0 rfl hd0;have hu:cv[0]? =some u:=by simpa using hu
 have hu1:u.oneCell'=true:=hud.one (hy d0 (List.mem_of_getElem? hd0));have hins:∀ {l:List Value},l.length=ys.length→(∀(i:Nat) e d,ys[i]? =some e→e[0]? =some d→∃u,l[i]? =some u∧DRel w ok d u)→
   ∀(k:Nat) e d,(ys.take i++y::ys.drop i)[k]? =some e→e[0]? =some d→∃v,(l.take i++u::l.drop i)[k]? =some v∧DRel w ok d v:=fun {l} hll hel k e d he hd=>by
  have hk:(ys.take i++y::ys.drop i)[k]? =if k<i then ys[k]? else if k=i then some y else ys[k - 1]? :=by
   have h1:(ys.take i).length=i:=by simp;omega
   split
   ·rw [List.getElem?_append_left (by omega),List.getElem?_take,if_pos (by omega)]
   ·rw [List.getElem?_append_right (by omega),h1];split
    ·subst k;simp
    ·obtain ⟨m,rfl⟩:∃m,k=i+1+m:=⟨k - i - 1,by omega⟩;rw [show i+1+m - i=m+1 by omega,List.getElem?_cons_succ,List.getElem?_drop,show i+1+m - 1=i+m by omega]
  rw [hk] at he;rw [ZDz (by omega)];split at he
  ·rename_i h;rw [if_pos h];exact hel k e d he hd
  ·rename_i h;rw [if_neg h];split at he
   ·rename_i h2;rw [if_pos h2];cases he;rw [hd0] at hd;cases hd;exact ⟨u,rfl,hud⟩
   ·rename_i h2;rw [if_neg h2];exact hel _ e d he hd
 have hmem:∀e∈ys.take i++y::ys.drop i,e.length=1:=fun e he=>by
  rcases List.mem_append.1 he with he|he
  ·exact o1 e (List.mem_of_mem_take he)
  ·rcases List.mem_cons.1 he with rfl|he
   ·exact hyl
   ·exact o1 e (List.mem_of_mem_drop he)
 have hlen2:(ys.take i++y::ys.drop i).length=ys.length+1:=by simp;omega
 have hdd:∀x∈ [V.dead,.dead,.dead],x=V.dead:=fun x hx=>by simp at hx;exact hx
 have hmx:(ys.take i++y::ys.drop i).length≤MAX:=by rw [hlen2];simp [MAX];omega
 obtain ⟨hle,hcase⟩:=h0;rcases hcase with ⟨k1,rfl,k3⟩|⟨b,o,cap,cs,T,fr,k1,rfl,k3,k4,k5,k6⟩
 ·obtain rfl:ys=[]:=List.length_eq_zero_iff.1 k3;obtain rfl:i=0:=by simpa using hi
  refine (hr.nil vb vc u w cv Tv fv g5 hu hu1).mono fun e w' hp=>?_;exact ZDF (ys:=[].take 0++y::[].drop 0) rfl hdd hO hp (fun h=>absurd h (Nat.lt_irrefl _)) (fun cs T fr h=>absurd (Zlc h) (Nat.lt_irrefl _)) (.inl rfl) rfl hmem hmx (hins (l:=[]) rfl (fun i e d h=>by cases h))
 ·rcases o3 with ⟨hz,_⟩|⟨b',cs',T',fr',j1,j2,j3,j4,j5⟩
  ·rw [k1] at hz;cases hz
  rw [k1] at j1;cases j1;rw [k5] at j2;cases j2;have hne:vb≠b:=fun e=>by have:=hO.inj 1 0 vb n1 n0 g1 (e▸k1);cases this
  obtain ⟨l,l1,l2,l3⟩:=ZDG o1 j5;have ho0:∀(j:Nat) (u:Value),l[j]? =some u→o=0:=fun j u hj=>by
   have:=(List.getElem?_eq_some_iff.1 hj).1;rcases k4 with k4|k4<;>omega
  have hc63:cap≤LEN:=by have:=j3.1;omega
  have hoc:0<cap→o+cap≤cs.size:=fun h=>by rcases k4 with k4|k4<;>omega
  have hrun:=hr.arr b o cap i vb vc l u w cs cv T Tv fr fv (by omega) (by omega) (by omega) hc63 hne k5 hoc j3.2 (fun j u hj=>by rw [ho0 j u hj,Nat.zero_add];exact l2 j u hj) g5 hu q3.2 (ZDH l1 o1 h1 l3) hu1;rw [l1] at hrun;refine hrun.mono fun e w' hp=>?_;exact ZDF hlen2.symm hdd hO hp (fun _=>⟨0,n0,k1⟩) (fun cs3 T3 fr3 h=>by rw [k5] at h;cases h;exact ⟨j3,hoc⟩) (k4.imp id fun e=>by simpa using e) (by rw [ZDx (by omega),hlen2,l1]) hmem hmx (hins l1 l3)
theorem ZDK {P:Program} {f:FuncId} {h:Heap} {tb n k i:Nat} {K:OK} {ys ys':List (List D)} {y:List D} {l:Nat} (hn:h n=some (.arr 1 ys)) (hk:h k=some (.arr 1 [y])) (hne:(n==k)=false)
  (hc:ZQ P f [.own 0 0 ys.length,.d (.int .i64 i),.own 1 0 1] [(0,.arr 1 ys),(1,.arr 1 [y])] [.dead,.dead,.dead] (.own 0 0 l) [(0,.arr 1 ys')])
  (hK:K (.own tb 0 l) [(n,none),(k,none),(tb,some (.arr 1 ys'))]):Z2 P h tb f [.own n 0 ys.length,.d (.int .i64 i),.own k 0 1] K:=by
 have hne':¬n=k:=by simpa using hne
 refine ⟨[],[true,false,true],[.own n 0 ys.length,.dat (.int .i64 i),.own k 0 1],[n,k],[],[.dead,.dead,.dead],.own 0 0 l,[(0,.arr 1 ys')],?_,?_,?_,rfl,trivial,.inr ?_⟩
 ·simp [ZbT,Zb8,Zdt,hn,hk,toD,cD]
 ·simp [nodup,Arg.name?,List.filterMap,hne',Ne.symm hne']
 ·have i0:idx [n,k] n=some 0:=by simp [idx]
  have i1:idx [n,k] k=some 1:=by simp [idx,hne]
  simp only [Zq8,List.map_cons,List.map_nil,argV,renC,i0,i1,objs,hn,hk,renO];exact hc
 ·simpa [Zga,back,ZbL,Zdw,Zjz,renV,renA,renC,renO] using hK
theorem ZDC {α:Type} [Inhabited α] {enc:α→Value} {w:World} {b o c m:Nat} {zs:List α} {cs:Array Value} {T:TypeId} {fr:Nat×Nat} (hb:w.heap[b]? =some (.cells cs T fr)) (hm:m≤zs.length) (hc:zs.length≤c) (hoc:o+c≤cs.size) {q:Nat} {e:Ending} {w':World}
  (he:e= .returned (.slice (some ⟨b,o,none⟩) m c)) (hw:w'=Sort.putRow enc (Sort.ahead w q) b o zs.toArray):ZDt w b o c ((zs.take m).map enc) e w':=by
 have hheap:w'.heap=w.heap.modify b (Sort.onCells (Sort.putCells enc o zs.toArray)):=by rw [hw];rfl
 have hos:w'.os=w.os∧w'.tape=w.tape∧w'.output=w.output:=by rw [hw];exact ⟨rfl,rfl,rfl⟩
 have hlen:((zs.take m).map enc).length=m:=by simp;omega
 have hb2:w'.heap[b]? =some (.cells (Sort.putCells enc o zs.toArray cs) T fr):=by
  rw [hheap,Array.getElem?_modify,if_pos rfl,hb];rfl
 refine ⟨hos,by rw [hheap];simp,fun k hk hkb=>by rw [hheap,Array.getElem?_modify,if_neg (Ne.symm hkb)],.inl ⟨cs,_,T,fr,by rw [hlen];exact he,by rw [hlen];omega,hb,hb2,by simp [Sort.putCells],fun k v hk=>?_⟩⟩;have hkl:=(List.getElem?_eq_some_iff.1 hk).1;rw [hlen] at hkl;rw [List.getElem?_map,List.getElem?_take,if_pos hkl] at hk;obtain ⟨x,hx,rfl⟩:=Option.map_eq_some_iff.1 hk;have hx2:(zs.toArray)[k]! =x:=by
  have:=(List.getElem?_eq_some_iff.1 hx).1;simp [List.getElem!_eq_getElem?_getD,hx]
 have hin:o+k<cs.size:=by omega
 simp only [Sort.putCells,Array.getElem?_mapIdx,Array.getElem?_eq_getElem hin,Option.map_some];rw [if_pos ⟨by omega,by simp;omega⟩,show o+k - o=k by omega,hx2]
theorem ZDE {α:Type} [Inhabited α] {enc:α→Value} {w:World} {b:Nat} {zs:List α} {cs:Array Value} {T:TypeId} {fr:Nat×Nat} (hb:w.heap[b]? =some (.cells cs T fr)) (hfz:∀i,w.frozen? ⟨b,i,none⟩=false) (o:Nat)
  (h:∀(k:Nat) x,zs[k]? =some x→cs[o+k]? =some (enc x)):Sort.Holds enc w b o zs.toArray:=fun j hj=>by
 have hj:j<zs.length:=by simpa using hj
 have e:(zs.toArray)[j]! =zs[j]:=by simp [hj]
 rw [e];refine ⟨?_,hfz _⟩;rw [cell_of_row w b _ cs T fr hb];exact h j _ (List.getElem?_eq_getElem hj)
def ZDB {α:Type} (P:Program) (f:FuncId) (enc:α→Value):Prop:=∀(b o c i:Nat) (zs:List α) (w:World) (cs:Array Value) (T:TypeId) (fr:Nat×Nat),i<zs.length→zs.length≤c→c≤LEN→w.heap[b]? =some (.cells cs T fr)→o+c≤cs.size→
  (∀j,w.frozen? ⟨b,j,none⟩=false)→(∀(k:Nat) x,zs[k]? =some x→cs[o+k]? =some (enc x))→
  Calls P f #[.slice (some ⟨b,o,none⟩) zs.length c,.int .i64 i,.int .i64 (i+1:Nat)] w (ZDt w b o c ((zs.take i++zs.drop (i+1)).map enc))
theorem del_int {P:Program} {ρ:Go.Shelf.Ren} (L:Lays2.n23 P ρ):ZDB P (ρ.f 23) (Value.int .i64):=fun b o c i zs w cs T fr hi hc hc2 hb hoc hfz h=>by
 refine (Any.slices_Delete_int L b o c i (i+1) zs w (ZDE hb hfz o h) hc hc2 (by omega) (by omega)).mono ?_;rintro e w' ⟨he,q,hw⟩;have hlen:(zs.take i++zs.drop (i+1)++List.replicate (i+1 - i) (0:Int)).length=zs.length:=by simp;omega
 have:=ZDC (m:=zs.length - (i+1 - i)) hb (by rw [hlen];omega) (by rw [hlen];exact hc) hoc he hw
 rwa [List.take_append_of_le_length (by simp;omega),List.take_of_length_le (by simp;omega)] at this
theorem del_str {P:Program} {ρ:Go.Shelf.Ren} (L:Lays2.n24 P ρ):ZDB P (ρ.f 24) encStr:=fun b o c i zs w cs T fr hi hc hc2 hb hoc hfz h=>by
 refine (Any.slices_Delete_string L b o c i (i+1) zs w (ZDE hb hfz o h) hc hc2 (by omega) (by omega)).mono ?_;rintro e w' ⟨he,q,hw⟩;have hlen:(zs.take i++zs.drop (i+1)++List.replicate (i+1 - i) ([]:List UInt8)).length=zs.length:=by simp;omega
 have:=ZDC (m:=zs.length - (i+1 - i)) hb (by rw [hlen];omega) (by rw [hlen];exact hc) hoc he hw
 rwa [List.take_append_of_le_length (by simp;omega),List.take_of_length_le (by simp;omega)] at this
theorem ZDJ {α:Type} {P:Program} {f:FuncId} {enc:α→Value} {c:α→D} (hr:ZDB P f enc) (hK:ZzQ P f) (he:∀w ok x u,DRel w ok (c x) u→u=enc x) (zs:List α) (i:Nat) (hi:i<zs.length) (hl:zs.length≤1048576):
  ZQ P f [.own 0 0 zs.length,.d (.int .i64 i),.d (.int .i64 (i+1:Nat))] [(0,.arr 1 (zs.map fun x=> [c x]))] [.dead,.dead,.dead] (.own 0 0 (zs.length - 1)) [(0,.arr 1 ((zs.take i++zs.drop (i+1)).map fun x=> [c x]))]:=by
 refine ⟨hK,fun w vs lam ok hO hlen hrel=>?_⟩;obtain ⟨v0,v1,v2,rfl⟩:∃a b c,vs=[a,b,c]:=by
  match vs,hlen with
  |[a,b,c],_=>exact ⟨a,b,c,rfl⟩
 have r0:=hrel 0 _ _ rfl rfl;have r1:=hrel 1 _ _ rfl rfl;have r2:=hrel 2 _ _ rfl rfl;obtain ⟨o1,o2,o3⟩:=hO.obj 0 _ rfl;obtain rfl:=int_of r1.inv_d;obtain rfl:=int_of r2.inv_d;have h0:OwnV w lam 0 1 (zs.map fun x=> [c x]) 0 zs.length v0:=by cases r0 with|own _ h=>exact h 1 _ rfl
 obtain ⟨hle,hcase⟩:=h0;rcases hcase with ⟨k1,rfl,k3⟩|⟨b,o,cap,cs,T,fr,k1,rfl,k3,k4,k5,k6⟩
 ·omega
 rcases o3 with ⟨hz,_⟩|⟨b',cs',T',fr',j1,j2,j3,j4,j5⟩
 ·rw [k1] at hz;cases hz
 rw [k1] at j1;cases j1;rw [k5] at j2;cases j2;have ho0:o=0:=by rcases k4 with k4|k4<;>omega
 subst ho0;have hcell:∀(k:Nat) x,zs[k]? =some x→∃u,cs[k]? =some u∧DRel w ok (c x) u:=fun k x hx=>by
  obtain ⟨u,h1,h2⟩:=j5 k [c x] 0 (c x) (by simp [hx]) rfl;exact ⟨u,by simpa using h1,h2⟩
 refine (hr b 0 cap i zs w cs T fr hi k3 (by have:=j3.1;omega) k5 (by omega) j3.2 fun k x hx=>?_).mono fun e w' hp=>?_
 ·obtain ⟨u,h1,h2⟩:=hcell k x hx;rw [Nat.zero_add,h1,he _ _ _ _ h2]
 ·have hll:(zs.take i++zs.drop (i+1)).length=zs.length - 1:=by simp;omega
  exact ZDF (n:=zs.length - 1) (ys:=(zs.take i++zs.drop (i+1)).map fun x=> [c x]) (by rw [List.length_map,hll]) (fun x hx=>by simp at hx;exact hx) hO hp (fun _=>⟨0,by simp [hget],k1⟩) (fun cs3 T3 fr3 h=>by rw [k5] at h;cases h;exact ⟨j3,fun _=>by omega⟩) (.inr rfl) (by simp) (fun e he=>by
   obtain ⟨x,_,rfl⟩:=List.mem_map.1 he;rfl) (by rw [List.length_map,hll];simp [MAX];omega) (fun k e d h1 h2=>by
   rw [List.getElem?_map] at h1;obtain ⟨x,hx,rfl⟩:=Option.map_eq_some_iff.1 h1;cases h2;have hmem:x∈zs:=by
    rcases List.mem_append.1 (List.mem_of_getElem? hx) with h|h
    ·exact List.mem_of_mem_take h
    ·exact List.mem_of_mem_drop h
   obtain ⟨k',hk'⟩:=List.getElem?_of_mem hmem;obtain ⟨u,g1,g2⟩:=hcell k' x hk';exact ⟨enc x,by rw [List.getElem?_map,hx];rfl,he _ _ _ _ g2▸g2⟩)
theorem ZDL {P:Program} {f:FuncId} {h:Heap} {tb n i l l':Nat} {j:Int} {K:OK} {ys ys':List (List D)} (hn:h n=some (.arr 1 ys))
  (hc:ZQ P f [.own 0 0 l,.d (.int .i64 i),.d (.int .i64 j)] [(0,.arr 1 ys)] [.dead,.dead,.dead] (.own 0 0 l') [(0,.arr 1 ys')])
  (hK:K (.own tb 0 l') [(n,none),(tb,some (.arr 1 ys'))]):Z2 P h tb f [.own n 0 l,.d (.int .i64 i),.d (.int .i64 j)] K:=by
 refine ⟨[],[true],[.own n 0 l,.dat (.int .i64 i),.dat (.int .i64 j)],[n],[],[.dead,.dead,.dead],.own 0 0 l',[(0,.arr 1 ys')],?_,?_,?_,rfl,trivial,.inr ?_⟩
 ·simp [ZbT,Zb8,Zdt,hn,toD,cD]
 ·simp [nodup,Arg.name?,List.filterMap]
 ·have i0:idx [n] n=some 0:=by simp [idx]
  simp only [Zq8,List.map_cons,List.map_nil,argV,renC,i0,objs,hn,renO];exact hc
 ·simpa [Zga,back,ZbL,Zdw,Zjz,renV,renA,renC,renO] using hK
end Go.Rx

