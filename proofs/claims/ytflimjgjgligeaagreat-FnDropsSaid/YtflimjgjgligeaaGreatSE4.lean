/-
  Part E4: lemmas on an evaluator over plain data of the model's code, plain laws on lists and numbers, or contracts of functions of the program; each lemma names its conditions.
-/
import Derived.Test.YtflimjgjgligeaaGreatSE3

set_option linter.unusedSimpArgs false
set_option linter.unusedVariables false
namespace Go.Rx
open Go Go.RowKit
section
variable {P:Program} {T:Tys} {okIn U:Nat→Prop} {w0:World} {p:Nat→Prop} {w w':World} {ok ok':Nat→Prop} {lam lam':Nat→Option Nat} {H H':Heap} {v0:V} {u0:Upd} {cv:Value}
theorem ZaJ.all:(x:V)→ZaJ (fun _=>True) x
 | .d x=> .d x
 | .ref _ _=> .ref trivial
 | .el _ _ _=> .el trivial
 | .own _ _ _=> .own trivial
 | .nils=> .nils
 | .agg vs=> .agg fun v hv=>ZaJ.all v
 | .tup vs=> .tup fun v hv=>ZaJ.all v
 | .clo _ vs=> .clo fun v hv=>ZaJ.all v
 | .dead=> .dead
termination_by x=>SizeOf.sizeOf x
decreasing_by all_goals (have:=List.sizeOf_lt_of_mem hv;simp;omega)
structure Ren (r:Nat→Option Nat) (lam:Nat→Option Nat) (H:Heap) (lam':Nat→Option Nat) (H':Heap):Prop where
 obj:∀n k o,r n=some k→H' k=some o→∃o0,H n=some o0∧o=renO r o0
 lam:∀n k,r n=some k→H' k≠none→lam' k=lam n
theorem ZqD {r:Nat→Option Nat} {o:AObj} {m:Nat} {xs:List (List D)} (h:AObj.arr m xs=renO r o):o= .arr m xs:=by
 cases o with
 |box c=>simp [renO] at h
 |arr m' xs'=>simp [renO] at h;obtain ⟨rfl,rfl⟩:=h;rfl
theorem ZiU {r:Nat→Option Nat} (hr:Ren r lam H lam' H') {x:V} {v:Value} (h:VRel w ok lam H x v):VRel w ok lam' H' (renC r x) v:=by
 cases x with
 |ref n off=>
  simp only [renC];cases hn:r n with
  |none=>exact .dead
  |some k=>
   cases h with|ref h1 h=>
   refine .ref h1 fun o ho=>?_;obtain ⟨o0,h2,_⟩:=hr.obj n k o hn ho;obtain ⟨b,hb,hv⟩:=h o0 h2;exact ⟨b,(hr.lam n k hn (by rw [ho];simp)).trans hb,hv⟩
 |el n i j=>
  simp only [renC];cases hn:r n with
  |none=>exact .dead
  |some k=>
   cases h with|el h1 h=>
   refine .el h1 fun m xs ho=>?_;obtain ⟨o0,h2,h3⟩:=hr.obj n k _ hn ho;rw [ZqD h3] at h2;obtain ⟨hi,b,hb,hv⟩:=h m xs h2;exact ⟨hi,b,(hr.lam n k hn (by rw [ho];simp)).trans hb,hv⟩
 |own n off len=>
  simp only [renC];cases hn:r n with
  |none=>exact .dead
  |some k=>
   cases h with|own h1 h=>
   refine .own h1 fun m xs ho=>?_;obtain ⟨o0,h2,h3⟩:=hr.obj n k _ hn ho;rw [ZqD h3] at h2;obtain ⟨hle,hc⟩:=h m xs h2;have hl:=hr.lam n k hn (by rw [ho];simp);refine ⟨hle,?_⟩;rcases hc with ⟨g1,g2,g3⟩|⟨b,o,cap,cs,Te,fr,g1,g2,g3,g4,g5,g6⟩
   ·exact .inl ⟨hl.trans g1,g2,g3⟩
   ·exact .inr ⟨b,o,cap,cs,Te,fr,hl.trans g1,g2,g3,g4,g5,g6⟩
 |d x=>exact .d h.inv_d
 |nils=>cases h;exact .nils
 |agg=>exact .dead
 |tup=>exact .dead
 |clo=>exact .dead
 |dead=>exact .dead
theorem Rel2.renC {r:Nat→Option Nat} (hr:Ren r lam H lam' H') {xs:List V} {vs:List Value} (h:Rel2 (VRel w ok lam H) xs vs):Rel2 (VRel w ok lam' H') (xs.map (Go.Rx.renC r)) vs:=
 Rel2.map _ h fun _ _ _ hx=>ZiU hr hx
theorem ZqE {r:Nat→Option Nat} (hr:Ren r lam H lam' H') {x:V} {v:Value} (h:VRel w ok lam H x v):VRel w ok lam' H' (renA r x) v:=by
 cases x with
 |agg vs=>obtain ⟨cs,rfl,h2⟩:=h.inv_agg;exact VRel.mkAgg (h2.renC hr)
 |clo f vs=>cases h with|clo hl hd=>have:=Rel2.renC hr ⟨hl,hd⟩;exact .clo this.1 this.2
 |_=>exact ZiU hr h
theorem ZiT {r:Nat→Option Nat} (hr:Ren r lam H lam' H') {x:V} {v:Value} (h:VRel w ok lam H x v):VRel w ok lam' H' (renV r x) v:=by
 cases x with
 |tup vs=>obtain ⟨cs,rfl,h2⟩:=h.inv_tup;exact VRel.mkTup (Rel2.map _ h2 fun _ _ _ hx=>ZqE hr hx)
 |_=>exact ZqE hr h
theorem ZqC {r:Nat→Option Nat} (hr:Ren r lam H lam' H') {n k:Nat} (hn:r n=some k) (hk:H' k≠none) {o:AObj} (h:Zcn w ok lam H n o):Zcn w ok lam' H' k (renO r o):=by
 have hl:=hr.lam n k hn hk;cases o with
 |box cells=>
  obtain ⟨b,cs,Te,h1,h2,h3,h4⟩:=h;have hrel:Rel2 (VRel w ok lam H) cells cs.toList:=⟨by simpa using h3,fun i x y hx hy=>h4 i x y hx (by simpa using hy)⟩;have h5:=hrel.renC hr;exact ⟨b,cs,Te,hl.trans h1,h2,by simpa using h5.1,fun i v c hv hc=>h5.2 i v c hv (by simpa using hc)⟩
 |arr m xs=>
  obtain ⟨h1,h2,h3⟩:=h;refine ⟨h1,h2,?_⟩;rcases h3 with ⟨g1,g2⟩|⟨b,cs,Te,fr,g1,g2⟩
  ·exact .inl ⟨hl.trans g1,g2⟩
  ·exact .inr ⟨b,cs,Te,fr,hl.trans g1,g2⟩
theorem Zg8 {r:Nat→Option Nat} {q:Nat→Prop} (hq:∀n k,r n=some k→q k) (x:V):ZaJ q (renC r x):=by
 cases x with
 |ref n off=>simp only [renC];cases hn:r n with|none=>exact .dead|some k=>exact .ref (hq n k hn)
 |el n i j=>simp only [renC];cases hn:r n with|none=>exact .dead|some k=>exact .el (hq n k hn)
 |own n i j=>simp only [renC];cases hn:r n with|none=>exact .dead|some k=>exact .own (hq n k hn)
 |d x=>exact .d x
 |nils=>exact .nils
 |_=>exact .dead
theorem Zm2 {r:Nat→Option Nat} {q:Nat→Prop} (hq:∀n k,r n=some k→q k) (x:V):ZaJ q (renA r x):=by
 cases x with
 |agg vs=>exact .agg fun v hv=>by obtain ⟨y,_,rfl⟩:=List.mem_map.1 hv;exact Zg8 hq y
 |clo f vs=>exact .clo fun v hv=>by obtain ⟨y,_,rfl⟩:=List.mem_map.1 hv;exact Zg8 hq y
 |_=>simp only [renA];exact Zg8 hq _
theorem Zm0 {r:Nat→Option Nat} {q:Nat→Prop} (hq:∀n k,r n=some k→q k) (x:V):ZaJ q (renV r x):=by
 cases x with
 |tup vs=>exact .tup fun v hv=>by obtain ⟨y,_,rfl⟩:=List.mem_map.1 hv;exact Zm2 hq y
 |_=>simp only [renV];exact Zm2 hq _
theorem Zm1 {r:Nat→Option Nat} {q:Nat→Prop} (hq:∀n k,r n=some k→q k) (o:AObj):Zgg q (renO r o):=by
 cases o with
 |box c=>intro v hv;obtain ⟨y,_,rfl⟩:=List.mem_map.1 hv;exact Zg8 hq y
 |arr=>trivial
theorem Zho:∀ {l:List Nat} {n k:Nat},idx l n=some k→l[k]? =some n:=by
 intro l;induction l with
 |nil=>intro n k h;simp [idx] at h
 |cons m l ih=>
  intro n k h;simp only [idx] at h;cases hm:m==n with
  |true=>rw [hm] at h;simp at h;subst h;simp at hm;simp [hm]
  |false=>
   rw [hm] at h;simp only [cond_false] at h;cases hi:idx l n with
   |none=>rw [hi] at h;simp at h
   |some j=>rw [hi] at h;simp at h;subst h;simpa using ih hi
theorem Zng:∀ {l:List Nat},nodup l=true→∀ {i j n:Nat},l[i]? =some n→l[j]? =some n→i=j:=by
 intro l;induction l with
 |nil=>intro _ i j n h;simp at h
 |cons m l ih=>
  intro h i j n hi hj;simp only [nodup,Bool.and_eq_true,Bool.not_eq_true'] at h;have hnot:∀k,l[k]? ≠some m:=fun k hk=>by
   have:=List.mem_of_getElem? hk;have h2:l.contains m=true:=by simpa using this
   rw [h2] at h;simp at h
  cases i with
  |zero=>
   simp at hi;subst hi;cases j with
   |zero=>rfl
   |succ j=>simp at hj;exact absurd hj (hnot j)
  |succ i=>
   cases j with
   |zero=>simp at hj;subst hj;simp at hi;exact absurd hi (hnot i)
   |succ j=>simp at hi hj;rw [ih h.2 hi hj]
theorem Zva (h:Heap) (r:Nat→Option Nat):∀(l:List Nat) (k j:Nat),hget (objs h r k l) (k+j)=(l[j]?).bind fun n=>(h n).map (renO r):=by
 intro l;induction l with
 |nil=>intro k j;simp [objs,hget]
 |cons n l ih=>
  intro k j;have lt:∀(l:List Nat) (k j:Nat),j<k→hget (objs h r k l) j=none:=by
   intro l;induction l with
   |nil=>intro k j _;simp [objs,hget]
   |cons a l ih=>
    intro k j hj;simp only [objs];split
    ·simp only [hget];have:(k==j)=false:=by simp;omega
     rw [this];exact ih (k+1) j (by omega)
    ·exact ih (k+1) j (by omega)
  cases j with
  |zero=>
   simp only [objs,List.getElem?_cons_zero,Option.bind_some,Nat.add_zero];cases hn:h n with
   |none=>simp only [Option.map_none];exact lt l (k+1) k (by omega)
   |some o=>simp [hget]
  |succ j=>
   simp only [objs,List.getElem?_cons_succ];cases hn:h n with
   |none=>simp only;rw [show k+(j+1)=k+1+j by omega];exact ih (k+1) j
   |some o=>
    simp only [hget];have:(k==k+(j+1))=false:=by simp
    rw [this,show k+(j+1)=k+1+j by omega];exact ih (k+1) j
theorem Zc5 (h:Heap) (r:Nat→Option Nat) (l:List Nat) (j:Nat):hget (objs h r 0 l) j=(l[j]?).bind fun n=>(h n).map (renO r):=by
 have:=Zva h r l 0 j;rwa [Nat.zero_add] at this
theorem Zl4 (H:Heap) (lam:Nat→Option Nat) (l:List Nat):Ren (idx l) lam H (fun k=>(l[k]?).bind lam) (hget (objs H (idx l) 0 l)):=by
 refine ⟨fun n k o hn ho=>?_,fun n k hn _=>by rw [Zho hn];rfl⟩;rw [Zc5,Zho hn] at ho;simp at ho;obtain ⟨o0,h1,h2⟩:=ho;exact ⟨o0,h1,h2.symm⟩
theorem HOK.idx (h:HOK w ok lam H) {l:List Nat} (hnd:nodup l=true) (hok:∀b,ok' b→b<w.heap.size) (hsub:∀b,ok b→ok' b)
  (hdis:∀(k:Nat) n b,l[k]? =some n→H n≠none→lam n=some b→¬ok' b):HOK w ok' (fun k=>(l[k]?).bind lam) (hget (objs H (idx l) 0 l)):=by
 have hne:∀k,hget (objs H (Go.Rx.idx l) 0 l) k≠none→∃n o,l[k]? =some n∧H n=some o∧hget (objs H (Go.Rx.idx l) 0 l) k=some (renO (Go.Rx.idx l) o):=fun k hk=>by
  rw [Zc5] at hk ⊢;cases hl:l[k]? with
  |none=>rw [hl] at hk;simp at hk
  |some n=>
   cases hn:H n with
   |none=>rw [hl] at hk;simp [hn] at hk
   |some o=>exact ⟨n,o,rfl,hn,by simp [hn]⟩
 refine ⟨fun k k' b hk hk' h1 h2=>?_,fun k b hk h1=>?_,fun k b hk h1=>?_,hok,fun k o ho=>?_⟩
 ·obtain ⟨n,o,e1,e2,_⟩:=hne k hk;obtain ⟨n',o',e3,e4,_⟩:=hne k' hk';rw [e1] at h1;rw [e3] at h2;have:=h.inj n n' b (by rw [e2];simp) (by rw [e4];simp) h1 h2;subst this;exact Zng hnd e1 e3
 ·obtain ⟨n,o,e1,e2,_⟩:=hne k hk;rw [e1] at h1;exact h.lt n b (by rw [e2];simp) h1
 ·obtain ⟨n,o,e1,e2,_⟩:=hne k hk;rw [e1] at h1;exact hdis k n b e1 (by rw [e2];simp) h1
 ·obtain ⟨n,o',e1,e2,e3⟩:=hne k (by rw [ho];simp);rw [ho] at e3;cases e3;have hi:Go.Rx.idx l n=some k:=by
   have hex:∃j,Go.Rx.idx l n=some j:=by
    have:∀(l:List Nat),n∈l→∃j,Go.Rx.idx l n=some j:=by
     intro l;induction l with
     |nil=>intro h;cases h
     |cons a l ih=>
      intro h;simp only [Go.Rx.idx];cases ha:a==n with
      |true=>exact ⟨0,rfl⟩
      |false=>
       rcases List.mem_cons.1 h with rfl|h
       ·simp at ha
       ·obtain ⟨j,hj⟩:=ih h;exact ⟨j+1,by rw [hj];rfl⟩
    exact this l (List.mem_of_getElem? e1)
   obtain ⟨j,hj⟩:=hex;rw [hj,Zng hnd (Zho hj) e1]
  have h0:Zcn w ok' lam H n o':=by
   have:=h.obj n o' e2;cases o' with
   |box cells=>
    obtain ⟨b,cs,Te,g1,g2,g3,g4⟩:=this;refine ⟨b,cs,Te,g1,g2,g3,fun i v c hv hc=>?_⟩;have hv':=g4 i v c hv hc;exact hv'.mono (p:=fun _=>True) (ZaJ.all v) (fun _ _=>rfl) hsub (fun _ _ _=>rfl) (fun n _ c' hc'=>⟨c',hc'⟩) (fun n _ m xs' hx=>⟨xs',hx,rfl⟩) (fun n b cs T fr m xs' _ _ _ hh=>⟨cs,T,fr,hh,rfl⟩)
   |arr m xs=>
    obtain ⟨g1,g2,g3⟩:=this;refine ⟨g1,g2,g3.imp id fun ⟨b,cs,Te,fr,k1,k2,k3,k4,k5⟩=>⟨b,cs,Te,fr,k1,k2,k3,k4,fun i e j d hi hj=>?_⟩⟩;obtain ⟨c,hc,hd⟩:=k5 i e j d hi hj;exact ⟨c,hc,hd.mono (fun _ _=>rfl) hsub⟩
  exact ZqC (Zl4 H lam l) hi (by rw [ho];simp) h0
end
end Go.Rx
namespace Go.Rx
open Go Go.RowKit
section
variable {P:Program} {T:Tys} {okIn U:Nat→Prop} {w0:World} {p:Nat→Prop} {w w':World} {ok ok':Nat→Prop} {lam lam':Nat→Option Nat} {H:Heap} {v0:V} {u0:Upd} {cv:Value}
theorem Flat.rel {d:D} (h:Flat d):∀ {v:Value},DRel w ok d v→DRel w ok' d v:=by
 induction h with
 |int k n=>intro v hd;cases hd;exact .int k n
 |bool b=>intro v hd;cases hd;exact .bool b
 |str s=>intro v hd;cases hd;exact .str s ‹_›
 |nil=>
  intro v hd;generalize he:D.sl []=e at hd;cases hd with
  |sl0 A c=>exact .sl0 A c
  |sl xs m b o cap vs hc hm hb hl hv hd=>cases he;exact .sl0 _ _
  |_=>cases he
 |agg h ih=>intro v hd;cases hd with|agg _ vs hl hd=>exact .agg _ vs hl fun i d v h1 h2=>ih d (List.mem_of_getElem? h1) (hd i d v h1 h2)
 |nilp=>intro v hd;cases hd;exact .nilp
 |und=>intro v hd;cases hd;exact .und
theorem ZcQ.rel {x:V} (h:ZcQ x):∀ {v:Value},VRel w ok lam H x v→VRel w ok' lam H x v:=by
 induction h with
 |d h=>intro v hv;exact .d (h.rel hv.inv_d)
 |ref n off=>intro v hv;cases hv with|ref h1 h2=>exact .ref h1 h2
 |el n i j=>intro v hv;cases hv with|el h1 h2=>exact .el h1 h2
 |own n i j=>intro v hv;cases hv with|own h1 h2=>exact .own h1 h2
 |nils=>intro v hv;cases hv;exact .nils
 |agg h ih=>intro v hv;obtain ⟨cs,rfl,hr⟩:=hv.inv_agg;exact VRel.mkAgg (hr.mono fun x y hx hxy=>ih x hx hxy)
 |tup h ih=>intro v hv;obtain ⟨cs,rfl,hr⟩:=hv.inv_tup;exact VRel.mkTup (hr.mono fun x y hx hxy=>ih x hx hxy)
 |dead=>intro v hv;exact .dead
theorem ZkM.rel {o:AObj} (h:ZkM o) {n:Nat} (hv:Zcn w ok lam H n o):Zcn w ok' lam H n o:=by
 cases o with
 |box cells=>
  obtain ⟨b,cs,Te,g1,g2,g3,g4⟩:=hv;exact ⟨b,cs,Te,g1,g2,g3,fun i v c hv hc=>(h v (List.mem_of_getElem? hv)).rel (g4 i v c hv hc)⟩
 |arr m xs=>
  obtain ⟨g1,g2,g3⟩:=hv;refine ⟨g1,g2,g3.imp id fun ⟨b,cs,Te,fr,k1,k2,k3,k4,k5⟩=>⟨b,cs,Te,fr,k1,k2,k3,k4,fun i e j d hi hj=>?_⟩⟩;obtain ⟨c,hc,hd⟩:=k5 i e j d hi hj;exact ⟨c,hc,(h e (List.mem_of_getElem? hi) d (List.mem_of_getElem? hj)).rel hd⟩
def ZlP (w:World) (ok:Nat→Prop) (lam:Nat→Option Nat) (H:Heap) (ps bs:List Nat):Arg→Value→Prop
 | .dat x,v=>DRel w (okB ok lam H bs) x v
 | .box n,v=>(∃cells,H n=some (.box cells))∧n∈ps∧∃b,lam n=some b∧v= .pointer (some ⟨b,0,none⟩)
 | .own n off len,v=>(∃m xs,H n=some (.arr m xs))∧n∈ps∧VRel w ok lam H (.own n off len) v
 | .nils,v=>v= .slice none 0 0
theorem ZlP.mono {ps bs ps' bs':List Nat} (h1:∀n∈ps,n∈ps') (h2:∀n∈bs,n∈bs') {a:Arg} {v:Value} (h:ZlP w ok lam H ps bs a v):ZlP w ok lam H ps' bs' a v:=by
 cases a with
 |dat x=>exact DRel.mono h (fun _ _=>rfl) fun b hb=>ZcI hb h2
 |box n=>exact ⟨h.1,h1 n h.2.1,h.2.2⟩
 |own n off len=>exact ⟨h.1,h1 n h.2.1,h.2.2⟩
 |nils=>exact h
theorem ZnI (hk:HOK w ok lam H):∀ {args:List V} {ms:List Bool} {vs:List Value} {as:List Arg} {ps bs:List Nat},Rel2 (VRel w ok lam H) args vs→ZbT H ms args=some (as,ps,bs)→Rel2 (ZlP w ok lam H ps bs) as vs:=by
 intro args;induction args with
 |nil=>intro ms vs as ps bs hr h;rw [hr.nil_left];simp [ZbT] at h;rw [h.1];exact Rel2.nil _
 |cons x xs ih=>
  intro ms vs as ps bs hr h;obtain ⟨v,m,rfl,hv,hm⟩:=hr.uncons;simp only [ZbT] at h;cases hg:ZbT H (ms.drop 1) xs with
  |none=>rw [hg] at h;simp at h
  |some q=>
   obtain ⟨as2,ps2,bs2⟩:=q;rw [hg] at h;simp only at h;have hrec:=ih hm hg;have dat:∀(y:V),VRel w ok lam H y v→Zdt H y as2 ps2 bs2=some (as,ps,bs)→Rel2 (ZlP w ok lam H ps bs) as (v::m):=by
    intro y hy h;unfold Zdt at h;cases hd:toD H y with
    |none=>rw [hd] at h;simp at h
    |some q=>
     obtain ⟨d,l⟩:=q;rw [hd] at h;simp at h;obtain ⟨rfl,rfl,rfl⟩:=h;exact Rel2.cons (DRel.mono (ZgZ hk hy hd) (fun _ _=>rfl) fun b hb=>ZcI hb (by simp;intro n hn;exact .inl hn)) (hrec.mono fun _ _ _ ha=>ha.mono (fun _ h=>h) (by simp;intro n hn;exact .inr hn))
   cases x with
   |ref n off=>
    cases off with
    |zero=>
     cases hn:H n with
     |none=>cases ms.headD false<;>simp [Zb8,hn] at h
     |some ob=>
      cases ob with
      |arr m xs=>cases ms.headD false<;>simp [Zb8,hn] at h
      |box cells=>
       have h:as= .box n::as2∧ps=refO H n++ps2∧bs=bs2:=by cases hmd:ms.headD false<;>simp [Zb8,hn,hmd] at h<;>exact ⟨h.1.symm,h.2.1.symm,h.2.2.symm⟩
       obtain ⟨rfl,rfl,rfl⟩:=h;cases hv with|ref _ hv=>
       obtain ⟨b,hb,rfl⟩:=hv _ hn;refine Rel2.cons ⟨⟨cells,hn⟩,?_,b,hb,rfl⟩ (hrec.mono fun _ _ _ ha=>ha.mono (by simp;intro n hn;exact .inr hn) (fun _ h=>h));simp [refO,hn]
    |succ off=>cases hmd:ms.headD false<;>rw [hmd] at h<;>exact dat _ hv h
   |own n off len=>
    cases hmd:ms.headD false with
    |false=>rw [hmd] at h;exact dat _ hv h
    |true=>
     rw [hmd] at h;cases hn:H n with
     |none=>simp [Zb8,hn] at h
     |some ob=>
      cases ob with
      |box c=>simp [Zb8,hn] at h
      |arr m xs=>
       simp [Zb8,hn] at h;obtain ⟨rfl,rfl,rfl⟩:=h;exact Rel2.cons ⟨⟨m,xs,hn⟩,by simp,hv⟩ (hrec.mono fun _ _ _ ha=>ha.mono (fun k hk=>List.mem_cons_of_mem _ hk) (fun _ h=>h))
   |nils=>
    cases hmd:ms.headD false with
    |false=>rw [hmd] at h;exact dat _ hv h
    |true=>
     rw [hmd] at h;simp [Zb8] at h;obtain ⟨rfl,rfl,rfl⟩:=h;cases hv;exact Rel2.cons rfl hrec
   |_=>cases hmd:ms.headD false<;>rw [hmd] at h<;>exact dat _ hv h
inductive Zkq:Arg→V→Nat→Nat→Prop
 |box (n j off:Nat):Zkq (.box n) (.ref j off) n j
 |own (n off len j off' len':Nat):Zkq (.own n off len) (.own j off' len') n j
theorem Zp3:∀ {as:List Arg} {os:List V} {j n:Nat},ZbL as os j=some n→∃(i:Nat) (a:Arg) (o:V),as[i]? =some a∧os[i]? =some o∧Zkq a o n j:=by
 intro as;induction as with
 |nil=>intro os j n h;cases os<;>simp [ZbL] at h
 |cons a as ih=>
  intro os j n h;cases os with
  |nil=>cases a<;>simp [ZbL] at h
  |cons o os=>
   have rec_:ZbL as os j=some n→∃(i:Nat) (a':Arg) (o':V),(a::as)[i]? =some a'∧(o::os)[i]? =some o'∧Zkq a' o' n j:=fun h=>by
    obtain ⟨i,a',o',h1,h2,h3⟩:=ih h;exact ⟨i+1,a',o',by simpa using h1,by simpa using h2,h3⟩
   cases a with
   |dat x=>exact rec_ (by simpa [ZbL] using h)
   |nils=>exact rec_ (by simpa [ZbL] using h)
   |box m=>
    cases o with
    |ref k off=>
     simp only [ZbL] at h;cases hk:k==j with
     |true=>rw [hk] at h;simp at h hk;subst h;subst hk;exact ⟨0,_,_,rfl,rfl,.box _ _ _⟩
     |false=>rw [hk] at h;exact rec_ h
    |_=>exact rec_ (by simpa [ZbL] using h)
   |own m off len=>
    cases o with
    |own k off' len'=>
     simp only [ZbL] at h;cases hk:k==j with
     |true=>rw [hk] at h;simp at h hk;subst h;subst hk;exact ⟨0,_,_,rfl,rfl,.own _ _ _ _ _ _⟩
     |false=>rw [hk] at h;exact rec_ h
    |_=>exact rec_ (by simpa [ZbL] using h)
theorem Zux:∀ {as:List Arg},nodup (as.filterMap Arg.name?)=true→∀ {i i':Nat} {a a':Arg} {n:Nat},as[i]? =some a→a.name? =some n→as[i']? =some a'→a'.name? =some n→i=i':=by
 intro as;induction as with
 |nil=>intro _ i i' a a' n h;simp at h
 |cons x as ih=>
  intro h i i' a a' n h1 h2 h3 h4;have htl:nodup (as.filterMap Arg.name?)=true:=by
   cases hx:x.name? with
   |none=>simpa [List.filterMap_cons,hx] using h
   |some k=>simp only [List.filterMap_cons,hx,nodup,Bool.and_eq_true] at h;exact h.2
  have hd:∀(k j:Nat) (y:Arg),x.name? =some k→as[j]? =some y→y.name? =some k→False:=fun k j y hx hy hyk=>by
   simp only [List.filterMap_cons,hx,nodup,Bool.and_eq_true,Bool.not_eq_true'] at h;have:(as.filterMap Arg.name?).contains k=true:=by
    simp only [List.contains_iff_mem,List.mem_filterMap];exact ⟨y,List.mem_of_getElem? hy,hyk⟩
   rw [this] at h;cases h.1
  cases i with
  |zero=>
   cases i' with
   |zero=>rfl
   |succ i'=>simp at h1 h3;subst h1;exact (hd n i' a' h2 h3 h4).elim
  |succ i=>
   cases i' with
   |zero=>simp at h1 h3;subst h3;exact (hd n i a h4 h1 h2).elim
   |succ i'=>exact congrArg (·+1) (ih htl (i:=i) (i':=i') (by simpa using h1) h2 (by simpa using h3) h4)
theorem Zkq.name {a:Arg} {o:V} {n j:Nat} (h:Zkq a o n j):a.name? =some n:=by cases h<;>rfl
theorem Zkq.inj {a:Arg} {o:V} {n j j':Nat} (h:Zkq a o n j) (h':Zkq a o n j'):j=j':=by cases h<;>cases h'<;>rfl
theorem ZrO:∀ {H':List (Nat×AObj)} {as:List Arg} {os:List V},Zaw H' as os=true→∀(i n:Nat),as[i]? =some (.box n)→∃k,os[i]? =some (.ref k 0)∧∃c,hget H' k=some (.box c):=by
 intro H' as;induction as with
 |nil=>intro os h i n hi;simp at hi
 |cons a as ih=>
  intro os h i n hi;cases os with
  |nil=>cases a<;>simp [Zaw] at h
  |cons o os=>
   have rec_:Zaw H' as os=true→(∀m,a≠ .box m)→∃k,(o::os)[i]? =some (.ref k 0)∧∃c,hget H' k=some (.box c):=fun h hne=>by
    cases i with
    |zero=>simp at hi;exact absurd hi (hne n)
    |succ i=>obtain ⟨k,h1,h2⟩:=ih h i n (by simpa using hi);exact ⟨k,by simpa using h1,h2⟩
   cases a with
   |dat x=>exact rec_ (by simpa [Zaw] using h) (fun _ e=>by cases e)
   |nils=>exact rec_ (by simpa [Zaw] using h) (fun _ e=>by cases e)
   |own m off len=>cases o<;>simp [Zaw] at h<;>first|exact rec_ h (fun _ e=>by cases e)|exact rec_ h.2 (fun _ e=>by cases e)
   |box m=>
    cases o with
    |ref k off=>
     cases off with
     |zero=>
      simp only [Zaw,Bool.and_eq_true] at h;cases i with
      |zero=>
       refine ⟨k,rfl,?_⟩;cases hk:hget H' k with
       |none=>rw [hk] at h;simp [Zpd] at h
       |some o=>cases o with
        |box c=>exact ⟨c,rfl⟩
        |arr m xs=>rw [hk] at h;simp [Zpd] at h
      |succ i=>obtain ⟨k',h1,h2⟩:=ih h.2 i n (by simpa using hi);exact ⟨k',by simpa using h1,h2⟩
     |succ off=>simp [Zaw] at h
    |_=>simp [Zaw] at h
theorem ZoY:∀ {H':List (Nat×AObj)} {as:List Arg} {os:List V},Zaw H' as os=true→ZdY H H' as os→∀(i n off len k off' len':Nat),as[i]? =some (.own n off len)→os[i]? =some (.own k off' len')→
  ∃m xs,hget H' k=some (.arr m xs)∧Zt6 (H n) (hget H' k):=by
 intro H' as;induction as with
 |nil=>intro os h _ i n off len k off' len' hi;simp at hi
 |cons a as ih=>
  intro os h hf i n off len k off' len' hi ho;cases os with
  |nil=>simp at ho
  |cons o os=>
   cases i with
   |zero=>
    simp at hi ho;subst hi;subst ho;simp only [Zaw,Bool.and_eq_true] at h;simp only [ZdY] at hf;cases hk:hget H' k with
    |none=>rw [hk] at h;simp [Zza] at h
    |some o=>cases o with
     |box c=>rw [hk] at h;simp [Zza] at h
     |arr m xs=>exact ⟨m,xs,rfl,hk▸hf.1⟩
   |succ i=>
    have h2:Zaw H' as os=true:=by
     cases a with
     |dat x=>simpa [Zaw] using h
     |nils=>simpa [Zaw] using h
     |own m off len=>cases o<;>simp [Zaw] at h<;>first|exact h|exact h.2
     |box m=>
      cases o with
      |ref k off=>cases off with
       |zero=>simp only [Zaw,Bool.and_eq_true] at h;exact h.2
       |succ off=>simp [Zaw] at h
      |_=>simp [Zaw] at h
    have hf2:ZdY H H' as os:=by
     cases a with
     |own m off len=>cases o<;>first|exact hf|exact hf.2
     |_=>exact hf
    exact ih h2 hf2 i n off len k off' len' (by simpa using hi) (by simpa using ho)
theorem Zi4:∀ {l:List (Nat×AObj)} {k:Nat} {o:AObj},hget l k=some o→(k,o)∈l:=by
 intro l;induction l with
 |nil=>intro k o h;simp [hget] at h
 |cons a l ih=>
  intro k o h;obtain ⟨m,o'⟩:=a;simp only [hget] at h;cases hm:m==k with
  |true=>rw [hm] at h;simp at h hm;subst h;subst hm;exact List.mem_cons_self
  |false=>rw [hm] at h;exact List.mem_cons_of_mem _ (ih h)
theorem Zlq:∀ {l:List (Nat×AObj)} {k:Nat},Zdw l k=true↔hget l k≠none:=by
 intro l;induction l with
 |nil=>intro k;simp [Zdw,hget]
 |cons a l ih=>
  intro k;obtain ⟨m,o⟩:=a;simp only [Zdw,hget,Bool.or_eq_true];cases hm:m==k with
  |true=>simp
  |false=>simp [ih]
theorem ZwX:∀ {l:List (Nat×AObj)},nodup (l.map (·.1))=true→∀ {q:Nat×AObj},q∈l→hget l q.1=some q.2:=by
 intro l;induction l with
 |nil=>intro _ q h;cases h
 |cons a l ih=>
  intro h q hq;obtain ⟨m,o⟩:=a;simp only [List.map_cons,nodup,Bool.and_eq_true,Bool.not_eq_true'] at h;rcases List.mem_cons.1 hq with rfl|hq
  ·simp [hget]
  ·simp only [hget];have hne:(m==q.1)=false:=by
    cases hm:m==q.1 with
    |false=>rfl
    |true=>
     simp at hm;have:(l.map (·.1)).contains m=true:=by simp;exact ⟨q.2,by rw [hm];exact hq⟩
     rw [this] at h;simp at h
   rw [hne];exact ih h.2 hq
theorem Zyz (r:Nat→Option Nat) (n:Nat):∀(L:List (Nat×AObj)) (G:Heap),
  (∃q∈L,(r q.1).getD 0=n∧updF (L.map fun q=>((r q.1).getD 0,some (renO r q.2))) G n=some (renO r q.2))∨
  ((∀q∈L,(r q.1).getD 0≠n)∧updF (L.map fun q=>((r q.1).getD 0,some (renO r q.2))) G n=G n):=by
 intro L;induction L with
 |nil=>intro G;exact .inr ⟨by simp,rfl⟩
 |cons x L ih=>
  intro G;simp only [List.map_cons,ZeA];rcases ih (fun m=>if (r x.1).getD 0=m then some (renO r x.2) else G m) with ⟨q,hq,h1,h2⟩|⟨h1,h2⟩
  ·exact .inl ⟨q,List.mem_cons_of_mem _ hq,h1,h2⟩
  ·by_cases hx:(r x.1).getD 0=n
   ·exact .inl ⟨x,List.mem_cons_self,hx,by rw [h2,if_pos hx]⟩
   ·refine .inr ⟨fun q hq=>?_,by rw [h2,if_neg hx]⟩;rcases List.mem_cons.1 hq with rfl|hq
    ·exact hx
    ·exact h1 q hq
end
end Go.Rx
namespace Go.Rx
open Go Go.RowKit
theorem Zj4 (b:Bool) (v:V):(∃cs,v= .agg cs∧cs.all Zjn=true∧Zpt b v=cs∧∀fl,grp1 b v fl= .agg fl)∨(Zpt b v=[v]∧∀fl,grp1 b v fl=fl.headD .dead):=by
 cases b with
 |false=>exact .inr ⟨by cases v<;>rfl,fun fl=>by cases v<;>rfl⟩
 |true=>cases v with
  |agg cs=>
   cases hc:cs.all Zjn with
   |true=>exact .inl ⟨cs,rfl,hc,by simp [Zpt,hc],fun _=>by simp [grp1,hc]⟩
   |false=>exact .inr ⟨by simp [Zpt,hc],fun _=>by simp [grp1,hc]⟩
  |_=>exact .inr ⟨rfl,fun _=>rfl⟩
theorem Rel2.append2 {α β:Type} {R:α→β→Prop} {a c:List α} {b d:List β} (h1:Rel2 R a b) (h2:Rel2 R c d):Rel2 R (a++c) (b++d):=by
 refine ⟨by rw [List.length_append,List.length_append,h1.1,h2.1],fun i x y hx hy=>?_⟩;by_cases hi:i<a.length
 ·rw [List.getElem?_append_left hi] at hx;rw [List.getElem?_append_left (h1.1▸hi)] at hy;exact h1.2 i x y hx hy
 ·rw [List.getElem?_append_right (by omega)] at hx;rw [List.getElem?_append_right (by have:=h1.1;omega)] at hy;exact h2.2 _ x y hx (h1.1▸hy)
theorem Zq9:∀ {sh:List Bool} {args fl:List V},fl.length=(Zgf sh args).length→(grpA sh args fl).length=args.length
 |[],args,fl,h=>h
 |_::_,[],fl,h=>rfl
 |b::sh,v::args,fl,h=>by
  simp only [Zgf,List.length_append] at h;simp only [grpA,List.length_cons];rw [Zq9 (by rw [List.length_drop];omega)]
theorem Zrd {w:World} {ok:Nat→Prop} {lam:Nat→Option Nat} {H:Heap}:∀ {sh:List Bool} {args:List V} {vs:List Value},Rel2 (VRel w ok lam H) args vs→
  ∃ws,Rel2 (VRel w ok lam H) (Zgf sh args) ws∧
   (∀(w':World) (ok':Nat→Prop) (lam':Nat→Option Nat) (H':Heap) (fl:List V),fl.length=(Zgf sh args).length→
    (Rel2 (VRel w' ok' lam' H') fl ws↔Rel2 (VRel w' ok' lam' H') (grpA sh args fl) vs))
 |[],args,vs,hr=>⟨vs,hr,fun _ _ _ _ _ _=>Iff.rfl⟩
 |_::_,[],vs,hr=>by
  obtain rfl:=hr.nil_left;exact ⟨[],Rel2.nil _,fun _ _ _ _ fl hfl=>by
   have:fl=[]:=List.eq_nil_of_length_eq_zero hfl;subst this;exact Iff.rfl⟩
 |b::sh,v::args,vs,hr=>by
  obtain ⟨x,m,rfl,hv,hm⟩:=hr.uncons;obtain ⟨ws,h1,h2⟩:=Zrd (sh:=sh) hm;rcases Zj4 b v with ⟨cs,rfl,_,e1,e2⟩|⟨e1,e2⟩
  ·obtain ⟨xs,rfl,hx⟩:=hv.inv_agg;refine ⟨xs++ws,?_,fun w' ok' lam' H' fl hfl=>?_⟩
   ·simp only [Zgf,e1];exact hx.append2 h1
   ·simp only [Zgf,e1,List.length_append] at hfl;simp only [grpA,e1,e2];have hd:(fl.drop cs.length).length=(Zgf sh args).length:=by rw [List.length_drop];omega
    have h3:=h2 w' ok' lam' H' (fl.drop cs.length) hd;constructor
    ·intro h;have ha:Rel2 (VRel w' ok' lam' H') (fl.take cs.length) xs:=by
      refine ⟨by rw [List.length_take,←hx.1];omega,fun i y z hy hz=>?_⟩;rw [List.getElem?_take] at hy;split at hy
      ·exact h.2 i y z hy (by rw [List.getElem?_append_left (by rw [←hx.1];assumption)];exact hz)
      ·cases hy
     have hb:Rel2 (VRel w' ok' lam' H') (fl.drop cs.length) ws:=by
      refine ⟨by rw [hd,h1.1],fun i y z hy hz=>?_⟩;rw [List.getElem?_drop] at hy;exact h.2 _ y z hy (by rw [hx.1,List.getElem?_append_right (by omega)];rw [Nat.add_sub_cancel_left];exact hz)
     exact Rel2.cons (VRel.mkAgg ha) (h3.1 hb)
    ·intro h;obtain ⟨x',m',e,ha,hb⟩:=h.uncons;obtain ⟨rfl,rfl⟩:=List.cons.inj e;obtain ⟨xs',e',ha'⟩:=ha.inv_agg;have:xs'=xs:=by cases e';rfl
     subst this;have:=ha'.append2 (h3.2 hb)
     rwa [List.take_append_drop] at this
  ·refine ⟨x::ws,?_,fun w' ok' lam' H' fl hfl=>?_⟩
   ·simp only [Zgf,e1];exact Rel2.cons hv h1
   ·simp only [Zgf,e1,List.length_append,List.length_cons,List.length_nil] at hfl;simp only [grpA,e1,e2];cases fl with
    |nil=>rw [List.length_nil] at hfl;omega
    |cons y fl=>
     have hd:fl.length=(Zgf sh args).length:=by simp at hfl;omega
     have h3:=h2 w' ok' lam' H' fl hd;show Rel2 _ (y::fl) (x::ws)↔Rel2 _ (y::grpA sh args fl) (x::m);constructor
     ·intro h;obtain ⟨x',m',e,ha,hb⟩:=h.uncons;obtain ⟨rfl,rfl⟩:=List.cons.inj e;exact Rel2.cons ha (h3.1 hb)
     ·intro h;obtain ⟨x',m',e,ha,hb⟩:=h.uncons;obtain ⟨rfl,rfl⟩:=List.cons.inj e;exact Rel2.cons ha (h3.2 hb)
theorem Zjx {H':List (Nat×AObj)}:∀ {as:List Arg} {os:List V},Zaw H' as os=true→as.length=os.length
 |[],[],_=>rfl
 |[],_::_,h=>by simp [Zaw] at h
 |a::as,[],h=>by cases a<;>simp [Zaw] at h
 |a::as,o::os,h=>by
  have h2:Zaw H' as os=true:=by
   cases a with
   |dat x=>simpa [Zaw] using h
   |nils=>simpa [Zaw] using h
   |own m off len=>cases o<;>simp [Zaw] at h<;>first|exact h|exact h.2
   |box m=>
    cases o with
    |ref k off=>cases off with
     |zero=>simp only [Zaw,Bool.and_eq_true] at h;exact h.2
     |succ off=>simp [Zaw] at h
    |_=>simp [Zaw] at h
  simp [Zjx h2]
theorem ZnW:∀ {sh:List Bool} {args:List V} {n:Nat},n∈(Zgf sh args).flatMap refV→n∈args.flatMap refV
 |[],args,n,h=>h
 |_::_,[],n,h=>h
 |b::sh,v::args,n,h=>by
  simp only [Zgf,List.flatMap_append,List.mem_append] at h;rw [List.flatMap_cons,List.mem_append];rcases h with h|h
  ·left;rcases Zj4 b v with ⟨cs,rfl,hc,e1,_⟩|⟨e1,_⟩
   ·rw [e1] at h;obtain ⟨c,hcm,hn⟩:=List.mem_flatMap.1 h;have hs:=List.all_eq_true.1 hc c hcm;refine List.mem_flatMap.2 ⟨c,hcm,?_⟩;cases c<;>first|exact hn|simp [Zjn] at hs
   ·rw [e1] at h;simpa using h
  ·exact .inr (ZnW h)
end Go.Rx
namespace Go.Rx
open Go Go.RowKit
section
variable {P:Program} {T:Tys} {okIn U:Nat→Prop} {w0:World} {p:Nat→Prop} {w w':World} {ok ok':Nat→Prop} {lam lam':Nat→Option Nat} {H:Heap} {v0:V} {u0:Upd} {cv:Value}
theorem ZlM (h:Ctx okIn U w0 p w ok lam H) {tb:Nat} (hf:Zey p tb) {vs:List Value} {as:List Arg} {ps bs gone:List Nat} {outs:List V} {res:V} {H2:List (Nat×AObj)}
  (hargs:Rel2 (ZlP w ok lam H ps bs) as vs) (hfit:Zaw H2 as outs=true) (hown:ZdY H H2 as outs) (hnm:nodup (as.filterMap Arg.name?)=true) (hsk:ZcC H2=true) (hgp:∀n∈ps,n∈gone)
  {lam2:Nat→Option Nat} {ok2 okn:Nat→Prop}
  (hfr:Fr (fun b=>∃n,hget (objs H (idx ps) 0 ps) n≠none∧(fun k=>(ps[k]?).bind lam) n=some b) w w')
  (hk2:HOK w' ok2 lam2 (hget H2)) (hres:VRel w' okn lam2 (hget H2) res cv) (hobj:∀n o,hget H2 n=some o→Zcn w' okn lam2 (hget H2) n o)
  (houts:∀(i:Nat) x v,outs[i]? =some x→vs[i]? =some v→VRel w' ok2 lam2 (hget H2) x v)
  (hown2:∀n b,hget H2 n≠none→lam2 n=some b→(∃n',hget (objs H (idx ps) 0 ps) n'≠none∧(fun k=>(ps[k]?).bind lam) n'=some b)∨w.heap.size≤b)
  (hon:∀b,ok b→okn b) (honlt:∀b,okn b→b<w'.heap.size) (honU:∀b,okn b→okIn b∨U b∨w0.heap.size≤b)
  (hond:∀n b,H n≠none→n∉gone→lam n=some b→¬okn b) (hond2:∀n b,hget H2 n≠none→lam2 n=some b→¬okn b):
  ∃lam',Eff okIn U w0 p (pX p tb) w ok lam H (renV (back tb as outs H2) res) (updF (Zga tb as outs gone H2) H) w' cv lam' okn:=by
 simp only [ZcC,Bool.and_eq_true] at hsk;obtain ⟨hkeys,hsmall⟩:=hsk;have hlt1000:∀k,hget H2 k≠none→k<1000:=fun k hk=>by
  cases hh:hget H2 k with
  |none=>exact absurd hh hk
  |some o=>have:=List.all_eq_true.1 hsmall _ (Zi4 hh);simpa using this
 have hpsd:∀n∈ps,H n≠none→∃k,ps[k]? =some n∧hget (objs H (idx ps) 0 ps) k≠none:=fun n hn hne=>by
  obtain ⟨k,hk,rfl⟩:=List.mem_iff_getElem.1 hn;refine ⟨k,List.getElem?_eq_getElem hk,?_⟩;rw [Zc5,List.getElem?_eq_getElem hk];simpa using hne
 have hpas:∀b,(∃n,hget (objs H (idx ps) 0 ps) n≠none∧(fun k=>(ps[k]?).bind lam) n=some b)↔∃n∈ps,H n≠none∧lam n=some b:=fun b=>by
  constructor
  ·rintro ⟨k,hk,hb⟩;rw [Zc5] at hk;have hb:(ps[k]?).bind lam=some b:=hb;cases hl:ps[k]? with
   |none=>rw [hl] at hk;simp at hk
   |some n=>rw [hl] at hk hb;exact ⟨n,List.mem_of_getElem? hl,by simpa using hk,by simpa using hb⟩
  ·rintro ⟨n,hn,hne,hb⟩;obtain ⟨k,h1,h2⟩:=hpsd n hn hne;exact ⟨k,h2,by show (ps[k]?).bind lam=some b;rw [h1];exact hb⟩
 have hblk:∀k,k<w.heap.size→(∀n∈ps,H n≠none→lam n≠some k)→w'.heap[k]? =w.heap[k]? :=fun k hk hn=>hfr.block k hk fun hc=>by
  obtain ⟨n,h1,h2,h3⟩:=(hpas k).1 hc;exact hn n h1 h2 h3
 let r:=back tb as outs H2
 have hback:∀(i:Nat) (a:Arg) (o:V) (n k:Nat),as[i]? =some a→outs[i]? =some o→Zkq a o n k→
   lam2 k=lam n∧n∈ps∧hget H2 k≠none∧H n≠none∧
   ((∃c c0,hget H2 k=some (AObj.box c)∧H n=some (AObj.box c0))∨(∃m xs xs',hget H2 k=some (AObj.arr m xs')∧H n=some (AObj.arr m xs)∧xs.length=xs'.length)):=fun i a o n k hi ho hao=>by
  obtain ⟨v,hv,ha⟩:=hargs.get hi;have hov:=houts i _ _ ho hv;cases hao with
  |box _ _ off=>
   obtain ⟨k',h1,c,h2⟩:=ZrO hfit i n hi;rw [ho] at h1;cases h1;obtain ⟨⟨c0,hc0⟩,hnp,b,hb,rfl⟩:=ha;cases hov with|ref _ ho'=>
   obtain ⟨b',hb',he⟩:=ho' _ h2;simp at he;subst he;exact ⟨hb'.trans hb.symm,hnp,by rw [h2];simp,by rw [hc0];simp,.inl ⟨c,c0,h2,hc0⟩⟩
  |own _ off len _ off' len'=>
   obtain ⟨m',xs',h1,h2⟩:=ZoY hfit hown i n off len k off' len' hi ho;obtain ⟨⟨m,xs,hn⟩,hnp,hvn⟩:=ha;rw [hn,h1] at h2;obtain ⟨rfl,h3⟩:=h2;refine ⟨?_,hnp,by rw [h1];simp,by rw [hn];simp,.inr ⟨m,xs,xs',h1,hn,h3⟩⟩;cases hvn with|own _ g1=>
   cases hov with|own _ g2=>
   obtain ⟨_,q1⟩:=g1 _ _ hn;obtain ⟨_,q2⟩:=g2 _ _ h1;rcases q1 with ⟨e1,e2,_⟩|⟨b,o,cap,cs,T,fr,e1,e2,_⟩
   ·rcases q2 with ⟨f1,_,_⟩|⟨b',o',cap',cs',T',fr',f1,f2,_⟩
    ·rw [e1,f1]
    ·rw [e2] at f2;cases f2
   ·rcases q2 with ⟨f1,f2,_⟩|⟨b',o',cap',cs',T',fr',f1,f2,_⟩
    ·rw [e2] at f2;cases f2
    ·rw [e2] at f2;cases f2;rw [e1,f1]
 have hr:∀j n,r j=some n→hget H2 j≠none∧((∃(i:Nat) (a:Arg) (o:V),as[i]? =some a∧outs[i]? =some o∧Zkq a o n j)∨(n=tb+j)):=fun j n hj=>by
  simp only [r,back] at hj;cases hb:ZbL as outs j with
  |some m=>
   rw [hb] at hj;simp [Zjz] at hj;subst hj;obtain ⟨i,a,o,h1,h2,h3⟩:=Zp3 hb;exact ⟨(hback i a o m j h1 h2 h3).2.2.1,.inl ⟨i,a,o,h1,h2,h3⟩⟩
  |none=>
   rw [hb] at hj;cases hk:Zdw H2 j with
   |false=>rw [hk] at hj;simp [Zjz] at hj
   |true=>rw [hk] at hj;simp [Zjz] at hj;exact ⟨Zlq.1 hk,.inr hj.symm⟩
 have hrk:∀j,hget H2 j≠none→∃n,r j=some n:=fun j hj=>by
  simp only [r,back];cases hb:ZbL as outs j with
  |some m=>exact ⟨m,rfl⟩
  |none=>rw [Zlq.2 hj];exact ⟨tb+j,rfl⟩
 have hpn:∀n,H n≠none→p n:=h.dom;have hinj:∀j j' n,r j=some n→r j'=some n→j=j':=fun j j' n h1 h2=>by
  obtain ⟨a1,a2⟩:=hr j n h1;obtain ⟨b1,b2⟩:=hr j' n h2;rcases a2 with ⟨i,a,o,e1,e2,e3⟩|e1
  ·rcases b2 with ⟨i',a',o',f1,f2,f3⟩|f1
   ·have:=Zux hnm e1 e3.name f1 f3.name;subst this;rw [e1] at f1;cases f1;rw [e2] at f2;cases f2;exact e3.inj f3
   ·exact absurd (hpn n (hback i a o n j e1 e2 e3).2.2.2.1) (hf n (by omega) (by have:=hlt1000 j' b1;omega))
  ·rcases b2 with ⟨i',a',o',f1,f2,f3⟩|f1
   ·exact absurd (hpn n (hback i' a' o' n j' f1 f2 f3).2.2.2.1) (hf n (by omega) (by have:=hlt1000 j a1;omega))
   ·omega
 have hrange:∀j n,r j=some n→pX p tb n:=fun j n hj=>by
  obtain ⟨a1,a2⟩:=hr j n hj;rcases a2 with ⟨i,a,o,e1,e2,e3⟩|e1
  ·exact .inl (hpn n (hback i a o n j e1 e2 e3).2.2.2.1)
  ·have:=hlt1000 j a1;exact .inr ⟨by omega,by omega⟩
 let H3:Heap:=updF (Zga tb as outs gone H2) H
 let lamn:Nat→Option Nat:=fun n=>match H2.find? (fun q=>r q.1==some n) with|some q=>lam2 q.1|none=>lam n
 have hH3:∀n,(∃k o,hget H2 k=some o∧r k=some n∧H3 n=some (renO r o)∧lamn n=lam2 k)∨((∀k,r k≠some n)∧H3 n=remF gone H n∧lamn n=lam n):=fun n=>by
  have hl:∀k,r k=some n→lamn n=lam2 k:=fun k hk=>by
   obtain ⟨hne,_⟩:=hr k n hk;cases hh:hget H2 k with
   |none=>exact absurd hh hne
   |some o=>
    simp only [lamn];cases hfi:H2.find? (fun q=>r q.1==some n) with
    |none=>
     have:=List.find?_eq_none.1 hfi _ (Zi4 hh);simp [hk] at this
    |some q=>
     have:=List.find?_some hfi;simp at this;simp only;rw [hinj q.1 k n this hk]
  have hu:H3=updF (H2.map fun q=>((r q.1).getD 0,some (renO r q.2))) (remF gone H):=by
   simp only [H3,Zga,ZcV,ZiQ];rfl
  rcases Zyz r n H2 (remF gone H) with ⟨q,hq,h1,h2⟩|⟨h1,h2⟩
  ·have hk:=ZwX hkeys hq;obtain ⟨n',hn'⟩:=hrk q.1 (by rw [hk];simp);rw [hn'] at h1;simp at h1;subst h1;exact .inl ⟨q.1,q.2,hk,hn',by rw [hu];exact h2,hl q.1 hn'⟩
  ·refine .inr ⟨fun k hk=>?_,by rw [hu];exact h2,?_⟩
   ·obtain ⟨hne,_⟩:=hr k n hk;cases hh:hget H2 k with
    |none=>exact hne hh
    |some o=>exact h1 _ (Zi4 hh) (by rw [hk];rfl)
   ·simp only [lamn];cases hfi:H2.find? (fun q=>r q.1==some n) with
    |none=>rfl
    |some q=>
     have h3:=List.find?_some hfi;simp at h3;exact absurd (by rw [h3];rfl) (h1 q (List.mem_of_find?_eq_some hfi))
 have hren:Ren r lam2 (hget H2) lamn H3:=by
  refine ⟨fun k n o hk ho=>?_,fun k n hk hne=>?_⟩
  ·rcases hH3 n with ⟨k',o',h1,h2,h3,_⟩|⟨h1,_⟩
   ·have:=hinj k k' n hk h2;subst this;rw [ho] at h3;cases h3;exact ⟨o',h1,rfl⟩
   ·exact absurd hk (h1 k)
  ·rcases hH3 n with ⟨k',o',h1,h2,h3,h4⟩|⟨h1,_⟩
   ·have:=hinj k k' n hk h2;subst this;exact h4
   ·exact absurd hk (h1 k)
 have hold:∀n,p n→H3 n≠none→(∃k,r k=some n∧lamn n=lam n∧H n≠none∧((∃c c0,hget H2 k=some (AObj.box c)∧H n=some (AObj.box c0))∨(∃m xs xs',hget H2 k=some (AObj.arr m xs')∧H n=some (AObj.arr m xs)∧xs.length=xs'.length)))∨(n∉gone∧H3 n=H n∧H n≠none∧lamn n=lam n):=fun n hp hne=>by
  rcases hH3 n with ⟨k,o,h1,h2,h3,h4⟩|⟨h1,h2,h3⟩
  ·obtain ⟨_,hc⟩:=hr k n h2;rcases hc with ⟨i,a,o',e1,e2,e3⟩|e1
   ·obtain ⟨g1,g2,g3,g4,g5⟩:=hback i a o' n k e1 e2 e3;exact .inl ⟨k,h2,h4.trans g1,g4,g5⟩
   ·exact absurd hp (hf n (by omega) (by have:=hlt1000 k (by rw [h1];simp);omega))
  ·right;have hx:∃o,H3 n=some o:=Option.ne_none_iff_exists'.1 hne;obtain ⟨o,ho⟩:=hx;have h4:=ZdX (h2.symm.trans ho);exact ⟨h4.1,ho.trans h4.2.symm,by rw [h4.2];simp,h3⟩
 have hunt:∀n b,H n≠none→n∉ps→lam n=some b→w'.heap[b]? =w.heap[b]? :=fun n b hn hnp hb=>
  hblk b (h.hok.lt n b hn hb) fun m hm hmn hmb=>hnp (h.hok.inj n m b hn hmn hb hmb▸hm)
 have hchg:Chg p w ok lam H w' okn lamn H3:=by
  refine ⟨fun b hb=>hblk b (h.hok.oklt b hb) fun m hm hmn hmb=>h.hok.dis m b hmn hmb hb,hon,fun n hp hne=>?_,fun n hp c' hc'=>?_,fun n hp m xs' hc'=>?_,fun n b cs Te fr m xs' hp hc' hb hh=>?_⟩
  ·rcases hold n hp hne with ⟨_,_,e,_⟩|⟨_,_,_,e⟩<;>exact e
  ·rcases hold n hp (by rw [hc'];simp) with ⟨k,e1,_,_,⟨c,c0,e2,e3⟩|⟨m,xs,xs',e2,e3,_⟩⟩|⟨_,e,_⟩
   ·exact ⟨c0,e3⟩
   ·obtain ⟨o0,g1,g2⟩:=hren.obj k n _ e1 hc';rw [e2] at g1;cases g1;simp [renO] at g2
   ·exact ⟨c',e.symm.trans hc'⟩
  ·rcases hold n hp (by rw [hc'];simp) with ⟨k,e1,_,_,⟨c,c0,e2,e3⟩|⟨m2,xs,xs2,e2,e3,e4⟩⟩|⟨_,e,_⟩
   ·obtain ⟨o0,g1,g2⟩:=hren.obj k n _ e1 hc';rw [e2] at g1;cases g1;simp [renO] at g2
   ·obtain ⟨o0,g1,g2⟩:=hren.obj k n _ e1 hc';rw [e2] at g1;cases g1;simp [renO] at g2;obtain ⟨rfl,rfl⟩:=g2;exact ⟨xs,e3,e4⟩
   ·exact ⟨xs',e.symm.trans hc',rfl⟩
  ·exact hfr.sized b cs Te fr hh
 have hwho:∀n b,H3 n≠none→lamn n=some b→(∃k,r k=some n∧hget H2 k≠none∧lam2 k=some b)∨(n∉gone∧H n≠none∧lam n=some b∧H3 n=H n):=fun n b hne hb=>by
  rcases hH3 n with ⟨k,o,h1,h2,h3,h4⟩|⟨h1,h2,h3⟩
  ·exact .inl ⟨k,h2,by rw [h1];simp,h4▸hb⟩
  ·obtain ⟨o,ho⟩:=Option.ne_none_iff_exists'.1 hne;have h4:=ZdX (h2.symm.trans ho);exact .inr ⟨h4.1,by rw [h4.2];simp,h3▸hb,ho.trans h4.2.symm⟩
 have hmix:∀k n b,hget H2 k≠none→lam2 k=some b→n∉gone→H n≠none→lam n=some b→False:=fun k n b h1 h2 h3 h4 h5=>by
  rcases hown2 k b h1 h2 with hc|hc
  ·obtain ⟨m,hm,hmn,hmb⟩:=(hpas b).1 hc;exact h3 (hgp n (h.hok.inj n m b h4 hmn h5 hmb▸hm))
  ·have:=h.hok.lt n b h4 h5;omega
 refine ⟨lamn,⟨⟨⟨fun n n' b hn hn' hb hb'=>?_,fun n b hn hb=>?_,fun n b hn hb=>?_,honlt,fun n o ho=>?_⟩,fun n o ho=>?_,fun n hn=>?_,honU,fun n b hn hb=>?_,Nat.le_trans h.size hfr.size⟩,ZiT hren hres,Zm0 hrange res,?_,fun x v hg hv=>hchg.v hv hg⟩⟩
 ·rcases hwho n b hn hb with ⟨k,e1,e2,e3⟩|⟨e1,e2,e3,_⟩
  ·rcases hwho n' b hn' hb' with ⟨k',f1,f2,f3⟩|⟨f1,f2,f3,_⟩
   ·have:=hk2.inj k k' b e2 f2 e3 f3;subst this;rw [e1] at f1;exact Option.some.inj f1
   ·exact (hmix k n' b e2 e3 f1 f2 f3).elim
  ·rcases hwho n' b hn' hb' with ⟨k',f1,f2,f3⟩|⟨f1,f2,f3,_⟩
   ·exact (hmix k' n b f2 f3 e1 e2 e3).elim
   ·exact h.hok.inj n n' b e2 f2 e3 f3
 ·rcases hwho n b hn hb with ⟨k,e1,e2,e3⟩|⟨e1,e2,e3,_⟩
  ·exact hk2.lt k b e2 e3
  ·exact Nat.lt_of_lt_of_le (h.hok.lt n b e2 e3) hfr.size
 ·rcases hwho n b hn hb with ⟨k,e1,e2,e3⟩|⟨e1,e2,e3,_⟩
  ·exact hond2 k b e2 e3
  ·exact hond n b e2 e1 e3
 ·rcases hH3 n with ⟨k,o',h1,h2,h3,h4⟩|⟨h1,h2,h3⟩
  ·rw [show H3 n=some o from ho] at h3;cases h3;exact ZqC hren h2 (by rw [show H3 n=_ from ho];simp) (hobj k o' h1)
  ·have h4:=ZdX (h2.symm.trans ho);exact Zcn.chg hchg (hpn n (by rw [h4.2];simp)) (by rw [show H3 n=_ from ho];simp) (h.good n o h4.2) (fun b hb=>hunt n b (by rw [h4.2];simp) (fun hm=>h4.1 (hgp n hm)) hb) (h.hok.obj n o h4.2)
 ·rcases hH3 n with ⟨k,o',h1,h2,h3,h4⟩|⟨h1,h2,h3⟩
  ·rw [show H3 n=some o from ho] at h3;cases h3;exact Zm1 hrange o'
  ·have h4:=ZdX (h2.symm.trans ho);exact (h.good n o h4.2).mono fun _ h=> .inl h
 ·rcases hH3 n with ⟨k,o',h1,h2,h3,h4⟩|⟨h1,h2,h3⟩
  ·exact hrange k n h2
  ·obtain ⟨o,ho⟩:=Option.ne_none_iff_exists'.1 hn;have h4:=ZdX (h2.symm.trans ho);exact .inl (hpn n (by rw [h4.2];simp))
 ·rcases hwho n b hn hb with ⟨k,e1,e2,e3⟩|⟨e1,e2,e3,_⟩
  ·rcases hown2 k b e2 e3 with hc|hc
   ·obtain ⟨m,hm,hmn,hmb⟩:=(hpas b).1 hc;exact h.ownb m b hmn hmb
   ·exact .inr (Nat.le_trans h.size hc)
  ·exact h.ownb n b e2 e3
 ·exact ⟨hfr.os,hfr.tape,hfr.output,hfr.size,fun k hk hu=>hblk k hk fun m hm hmn hmb=>hu (h.ownb m k hmn hmb),hfr.sized⟩
theorem ZxB (h:Ctx okIn U w0 p w ok lam H) {tb:Nat} (hf:Zey p tb) {f:FuncId} {args:List V} {vs:List Value} (hargs:Rel2 (VRel w ok lam H) args vs) (hv:Z2 P H tb f args (eqK v0 u0)):
  Calls P f ⟨vs⟩ w fun e w'=>∃cv lam' ok',e= .returned cv∧Eff okIn U w0 p (pX p tb) w ok lam H v0 (updF u0 H) w' cv lam' ok':=by
 obtain ⟨sh,ms,as,ps,bs,outs,res,H2,hg,hc1,hok,hc2,hown,hK⟩:=hv;obtain ⟨ws,hflat,hiff⟩:=Zrd (sh:=sh) hargs;simp only [Bool.and_eq_true] at hc1 hc2;obtain ⟨⟨hnd,hnm⟩,hpb⟩:=hc1;obtain ⟨hfit,hsk⟩:=hc2;have hpb':∀n∈ps,n∉bs:=fun n hn hb=>by
  have:=List.all_eq_true.1 hpb n hn;simp at this;exact this hb
 have har:=ZnI h.hok hflat hg;have hlo:=Zjx hfit;have hokc:∀b,okB ok lam H bs b→b<w.heap.size:=fun b hb=>by
  rcases hb with hb|⟨n,_,h1,h2⟩
  ·exact h.hok.oklt b hb
  ·exact h.hok.lt n b h1 h2
 have hk:=h.hok.idx (ok':=okB ok lam H bs) hnd hokc (fun b hb=> .inl hb) (fun k n b hk hn hb ho=>by
  rcases ho with ho|⟨m,hm,h1,h2⟩
  ·exact h.hok.dis n b hn hb ho
  ·exact hpb' n (List.mem_of_getElem? hk) (h.hok.inj n m b hn h1 hb h2▸hm))
 have hren:=Zl4 H lam ps;have hcargs:∀(i:Nat) x v,(as.map (argV ps))[i]? =some x→ws[i]? =some v→VRel w (okB ok lam H bs) (fun k=>(ps[k]?).bind lam) (hget (objs H (idx ps) 0 ps)) x v:=fun i x v hx hvv=>by
  rw [List.getElem?_map] at hx;cases ha:as[i]? with
  |none=>rw [ha] at hx;simp at hx
  |some a=>
   rw [ha] at hx;simp at hx;subst hx;have hr:=har.2 i a v ha hvv;cases a with
   |dat x=>exact .d hr
   |box n=>
    obtain ⟨⟨c,hc⟩,hnp,b,hb,rfl⟩:=hr;simp only [argV];refine ZiU hren (ok:=okB ok lam H bs) (H:=H) (lam:=lam) (.ref ⟨_,rfl⟩ fun o ho=>⟨b,hb,rfl⟩)
   |own n off len=>
    obtain ⟨_,hnp,hvn⟩:=hr;simp only [argV];cases hvn with|own g1 g2=>
    exact ZiU hren (ok:=okB ok lam H bs) (H:=H) (lam:=lam) (.own g1 g2)
   |nils=>
    obtain rfl:v=_:=hr;exact .nils
 have hpas:∀b,(∃n,hget (objs H (idx ps) 0 ps) n≠none∧(fun k=>(ps[k]?).bind lam) n=some b)→∃n∈ps,H n≠none∧lam n=some b:=fun b=>by
  rintro ⟨k,hk,hb⟩;rw [Zc5] at hk;have hb:(ps[k]?).bind lam=some b:=hb;cases hl:ps[k]? with
  |none=>rw [hl] at hk;simp at hk
  |some n=>rw [hl] at hk hb;exact ⟨n,List.mem_of_getElem? hl,by simpa using hk,by simpa using hb⟩
 have hga:=(hiff w (okB ok lam H bs) (fun k=>(ps[k]?).bind lam) (hget (objs H (idx ps) 0 ps)) (as.map (argV ps)) (by rw [List.length_map,har.1,hflat.1])).1 ⟨by rw [List.length_map];exact har.1,hcargs⟩;refine (hok.2 w vs _ _ hk hga.1 hga.2).mono ?_;rintro e w' ⟨cv,lam2,ok2,rfl,hfr,hk2,hres,houts0,hsub,hown2⟩;have houts:=((hiff w' ok2 lam2 (hget H2) outs (by rw [←hlo,har.1,hflat.1])).2 ⟨by rw [Zq9 (by rw [←hlo,har.1,hflat.1]),hargs.1],houts0⟩).2;have hok2U:∀b,ok2 b→okIn b∨U b∨w0.heap.size≤b:=fun b hb=>by
  rcases hsub b hb with hb|hb|hb
  ·rcases hb with hb|⟨n,_,h1,h2⟩
   ·exact h.okb b hb
   ·exact .inr (h.ownb n b h1 h2)
  ·obtain ⟨m,hm,hmn,hmb⟩:=hpas b hb;exact .inr (h.ownb m b hmn hmb)
  ·exact .inr (.inr (Nat.le_trans h.size hb))
 have hown_ok:∀k b,hget H2 k≠none→lam2 k=some b→¬ok b:=fun k b hkn hb ho=>by
  rcases hown2 k b hkn hb with hc|hc
  ·obtain ⟨m,hm,hmn,hmb⟩:=hpas b hc;exact h.hok.dis m b hmn hmb ho
  ·have:=h.hok.oklt b ho;omega
 have letgo:∀gone,(∀n∈ps,n∈gone)→(∀n∈bs,n∈gone)→v0=renV (back tb as outs H2) res→u0=Zga tb as outs gone H2→
   ∃cv' lam' ok',Ending.returned cv= .returned cv'∧Eff okIn U w0 p (pX p tb) w ok lam H v0 (updF u0 H) w' cv' lam' ok':=by
  rintro gone hg1 hg2 rfl rfl;obtain ⟨lam',he⟩:=ZlM (okn:=fun b=>ok b∨ok2 b) h hf har hfit hown hnm hsk hg1 hfr hk2
   (hres.mono (ZaJ.all _) (fun _ _=>rfl) (fun b hb=> .inr hb) (fun _ _ _=>rfl) (fun n _ c' hc'=>⟨c',hc'⟩) (fun n _ m xs' hx=>⟨xs',hx,rfl⟩) (fun n b cs T fr m xs' _ _ _ hh=>⟨cs,T,fr,hh,rfl⟩))
   (fun n o ho=>Zcn.chg (p:=fun _=>True) (Chg.of_old (fun _ _=>rfl) hk2.oklt (fun b hb=> .inr hb) (fun _ _=> .inr rfl) (fun _ _ _=>rfl)) trivial (by rw [ho];simp) (by cases o with|box c=>exact fun v _=>ZaJ.all v|arr=>trivial) (fun _ _=>rfl) (hk2.obj n o ho))
   houts hown2 (fun b hb=> .inl hb) (fun b hb=>hb.elim (fun hb=>Nat.lt_of_lt_of_le (h.hok.oklt b hb) hfr.size) (hk2.oklt b)) (fun b hb=>hb.elim (h.okb b) (hok2U b))
   (fun n b hn hng hb ho=>by
    rcases ho with ho|ho
    ·exact h.hok.dis n b hn hb ho
    ·rcases hsub b ho with ho|ho|ho
     ·rcases ho with ho|⟨m,hm,h1,h2⟩
      ·exact h.hok.dis n b hn hb ho
      ·exact hng (hg2 n (h.hok.inj n m b hn h1 hb h2▸hm))
     ·obtain ⟨m,hm,hmn,hmb⟩:=hpas b ho;exact hng (hg1 n (h.hok.inj n m b hn hmn hb hmb▸hm))
     ·have:=h.hok.lt n b hn hb;omega)
   (fun k b hkn hb ho=>ho.elim (hown_ok k b hkn hb) (hk2.dis k b hkn hb))
  exact ⟨cv,lam',_,rfl,he⟩
 rcases hK with ⟨hbs|⟨hfl,hfh⟩,rfl,rfl⟩|⟨rfl,rfl⟩
 ·subst hbs;exact letgo ps (fun _ h=>h) (by simp) rfl rfl
 ·obtain ⟨lam',he⟩:=ZlM (okn:=ok) h hf har hfit hown hnm hsk (fun _ h=>h) hfr hk2 (hfl.rel hres) (fun n o ho=>(hfh _ (Zi4 ho)).rel (hk2.obj n o ho)) houts hown2 (fun _ h=>h)
   (fun b hb=>Nat.lt_of_lt_of_le (h.hok.oklt b hb) hfr.size) h.okb (fun n b hn _ hb=>h.hok.dis n b hn hb) hown_ok
  exact ⟨cv,lam',_,rfl,he⟩
 ·exact letgo (bs++ps) (fun n hn=>List.mem_append_right _ hn) (fun n hn=>List.mem_append_left _ hn) rfl rfl
end
end Go.Rx
namespace Go.Rx
open Go Go.RowKit
section
variable {P:Program} {T:Tys} {okIn U:Nat→Prop} {w0:World} {p:Nat→Prop} {w w':World} {ok ok':Nat→Prop} {lam lam':Nat→Option Nat} {H:Heap} {v0:V} {u0:Upd} {cv:Value} {a:Act} {Q:Exit→Act→World→Prop}
def Zot (okIn U:Nat→Prop) (w0:World) (p:Nat→Prop) (tb:Nat) (w:World) (ok:Nat→Prop) (lam:Nat→Option Nat) (H:Heap) (a:Act) (dst:Option Nat) (v0:V) (u0:Upd):Act→World→Prop:=fun a' w'=>
 ∃cv lam' ok',a'=a.put dst cv∧Eff okIn U w0 p (pX p tb) w ok lam H v0 (updF u0 H) w' cv lam' ok'
theorem ZaQ {o:Oper} {tb:Nat} {s:Sem Value} (he:execOp a.eval o=(do pure (.value (←s)))) (hd:Does P okIn U w0 p tb w ok lam H v0 u0 s):
  o.wp P a w (Zot okIn U w0 p tb w ok lam H a o.dst v0 u0) Q:=by
 obtain ⟨cv,w',lam',ok',hr,hE⟩:=hd;unfold Oper.wp;rw [he];simp only [Sem.run_bind,hr,Result.andThen_ok,Sem.run_pure,Oper.upon];exact ⟨cv,lam',ok',rfl,hE⟩
theorem Zbn.does (h:Ctx okIn U w0 p w ok lam H) {tb:Nat} {g:Prop} (hg:g) {s:Sem Value} (hq:Zbn P w ok lam H p v0 u0 g s):Does P okIn U w0 p tb w ok lam H v0 u0 s:=by
 obtain ⟨cv,hr,rfl,hv,hgd⟩:=hq;exact ⟨cv,w,lam,ok,hr,Eff.quiet h (fun _ h=> .inl h) hv (hgd hg)⟩
theorem Zao {α:Type} {o:Option α} {F:α→Prop} (h:Zab o F):∃x,o=some x∧F x:=by
 cases o with
 |none=>exact h.elim
 |some x=>exact ⟨x,rfl,h⟩
theorem Zuo {o:Option AObj} {F:List V→Prop} (h:ZjB o F):∃c,o=some (.box c)∧F c:=by
 cases o with
 |none=>exact h.elim
 |some x=>cases x with
  |box c=>exact ⟨c,rfl,h⟩
  |arr m xs=>exact h.elim
theorem Znd {o:Option AObj} {F:Nat→List (List D)→Prop} (h:Zb2 o F):∃m xs,o=some (.arr m xs)∧F m xs:=by
 cases o with
 |none=>exact h.elim
 |some x=>cases x with
  |box c=>exact h.elim
  |arr m xs=>exact ⟨m,xs,rfl,h⟩
theorem ZlF {x:V} {cs:List V} (h:x.cells=some cs) (hg:ZaJ p x):∀v∈cs,ZaJ p v:=by
 intro v hv;cases x<;>simp only [V.cells] at h<;>first
  |(simp at h;done)
  |(simp at h;subst h;simp at hv;subst hv;exact hg)
  |(simp at h;subst h;cases hg with|agg hg=>exact hg v hv)
  |skip
 rename_i y;cases y<;>simp only at h<;>first
  |(simp at h;done)
  |(simp at h;subst h;simp at hv;obtain ⟨z,_,rfl⟩:=hv;exact .d _)
  |(simp at h;subst h;simp at hv;subst hv;exact hg)
theorem Zq2 (hT:TyOK P T) {e:Nat} (h:isU8 (T e)=true):P.underlying e=some (.int .u8):=by
 unfold isU8 at h;split at h
 ·rename_i a b z hTe;obtain ⟨info,d,zz,ht⟩:=hT e _ hTe;have:=Zf0 ht.kind;subst this;exact ht.und
 ·simp at h
theorem ZxS (hT:TyOK P T) {t:Nat} {i:TI} (h:T t=some i):∃d,P.underlying t=some d∧ZcS d i.kind:=by
 obtain ⟨info,d,z,ht⟩:=hT t i h;exact ⟨d,ht.und,ht.kind⟩
theorem ZvJ (hT:TyOK P T) (h:Ctx okIn U w0 p w ok lam H) {tb:Nat} (hf:Zey p tb) {src dst:Nat} {x:V} {xv:Value} (hx:VRel w ok lam H x xv) (hv:Zbm H tb (Zfa (T src) (T dst) T) x (eqK v0 u0)):
  Does P okIn U w0 p tb w ok lam H v0 u0 (convert src dst xv):=by
 cases hs:T src with
 |none=>rw [hs] at hv;simp [Zfa,Zbm] at hv
 |some si=>
  cases hd:T dst with
  |none=>rw [hs,hd] at hv;simp [Zfa,Zbm] at hv
  |some di=>
   obtain ⟨ds,us,ks⟩:=ZxS hT hs;obtain ⟨dd,ud,kd⟩:=ZxS hT hd;rw [hs,hd] at hv;obtain ⟨s1,s2,sk,s4⟩:=si;obtain ⟨d1,d2,dk,d4⟩:=di;simp only at ks kd;cases sk with
   |int k0=>
    cases dk with
    |int k=>
     simp only [Zfa] at hv;obtain rfl:=Zf0 ks;obtain rfl:=Zf0 kd;cases x with
     |d y=>cases y with
      |int k1 n=>
       simp only [Zbm] at hv;obtain ⟨rfl,rfl⟩:=hv;cases hx.inv_d;exact Zbn.does (g:=True) h trivial ⟨.int k (k.wrap n),by simp [convert,run_underlying us,run_underlying ud,Conv.intToInt],rfl,.d (.int _ _),fun _=> .d _⟩
      |_=>simp [Zbm] at hv
     |_=>simp [Zbm] at hv
    |_=>simp [Zfa,Zbm] at hv
   |str=>
    obtain rfl:=ZdN ks;cases dk with
    |str=>
     obtain rfl:=ZdN kd;simp only [Zfa] at hv;cases x with
     |d y=>cases y with
      |str s=>
       simp only [Zbm] at hv;obtain ⟨rfl,rfl⟩:=hv;cases hx.inv_d with|str _ hm=>
       exact Zbn.does (g:=True) h trivial ⟨.string ⟨⟨s⟩⟩,by simp [convert,run_underlying us,run_underlying ud],rfl,.d (.str _ hm),fun _=> .d _⟩
      |_=>simp [Zbm] at hv
     |_=>simp [Zbm] at hv
    |slice e=>
     obtain rfl:=Zbl kd;simp only [Zfa] at hv;cases hu8:isU8 (T e) with
     |false=>rw [hu8] at hv;simp [Zbm] at hv
     |true=>
      rw [hu8] at hv;simp only [cond_true] at hv;cases x with
      |d y=>cases y with
       |_=>simp [Zbm] at hv
      |_=>simp [Zbm] at hv
    |_=>simp [Zfa,Zbm] at hv
   |slice e=>
    obtain rfl:=Zbl ks;cases dk with
    |str=>
     obtain rfl:=ZdN kd;simp only [Zfa] at hv;cases hu8:isU8 (T e) with
     |false=>rw [hu8] at hv;simp [Zbm] at hv
     |true=>
      rw [hu8] at hv;simp only [cond_true] at hv;have hv:Zab (slOf (toD H x)) fun xs=>(xs.map ZhB).map ZaU=xs∧eqK v0 u0 (.d (.str (xs.map ZhB))) []:=by
       cases x with
       |d y=>cases y<;>exact hv
       |_=>exact hv
      obtain ⟨xs,hxs,he,rfl,rfl⟩:=Zao hv;cases htd:toD H x with
      |none=>rw [htd] at hxs;simp [slOf] at hxs
      |some q=>
       obtain ⟨dd,ls⟩:=q;rw [htd] at hxs;cases dd with
       |sl ys=>
        simp [slOf] at hxs;subst hxs;have hd:=ZgZ h.hok hx htd;rw [←he] at hd;obtain ⟨hr,hm⟩:=ZpY us (Zq2 hT hu8) ud hd;exact Zbn.does (g:=True) h trivial ⟨_,hr,rfl,.d (.str _ hm),fun _=> .d _⟩
       |_=>simp [slOf] at hxs
    |_=>simp [Zfa,Zbm] at hv
   |_=>simp [Zfa,Zbm] at hv
theorem Zl5 {ρ:Operand→V} (henv:∀x,VRel w ok lam H (ρ x) (a.eval x)) (xs:Array Operand):Rel2 (VRel w ok lam H) (xs.toList.map ρ) (xs.map a.eval).toList:=by
 refine ⟨by simp,fun i x y hx hy=>?_⟩;rw [List.getElem?_map] at hx;simp only [Array.toList_map,List.getElem?_map] at hy;cases hxi:xs.toList[i]? with
 |none=>rw [hxi] at hx;simp at hx
 |some z=>rw [hxi] at hx hy;simp at hx hy;subst hx;subst hy;exact henv z
theorem Zm3 {ρ:Operand→V} (henv:∀x,VRel w ok lam H (ρ x) (a.eval x)) (xs:Array (Nat×Operand)):
  Rel2 (fun a b=>a.1=b.1∧VRel w ok lam H a.2 b.2) (xs.toList.map fun q=>(q.1,ρ q.2)) (xs.map fun (i,x)=>(i,a.eval x)).toList:=by
 refine ⟨by simp,fun i x y hx hy=>?_⟩;rw [List.getElem?_map] at hx;simp only [Array.toList_map,List.getElem?_map] at hy;cases hxi:xs.toList[i]? with
 |none=>rw [hxi] at hx;simp at hx
 |some z=>rw [hxi] at hx hy;simp at hx hy;subst hx;subst hy;exact ⟨rfl,henv z.2⟩
theorem orel {ρ:Operand→V} (henv:∀x,VRel w ok lam H (ρ x) (a.eval x)) (o:Option Operand):ORel w ok lam H (o.map ρ) (o.map a.eval):=by
 cases o with
 |none=>trivial
 |some x=>exact henv x
theorem Zzx (h:Ctx okIn U w0 p w ok lam H) {o:Oper} {tb:Nat} (hf:Zey p tb) {f:FuncId} {args:List V} {vs:List Value} (hargs:Rel2 (VRel w ok lam H) args vs)
  (he:(execOp a.eval o).run P w= .ok (.enter f ⟨vs⟩) w) (hv:Z2 P H tb f args (eqK v0 u0)):o.wp P a w (Zot okIn U w0 p tb w ok lam H a o.dst v0 u0) Q:=by
 unfold Oper.wp;rw [he,Oper.upon_enter];refine (ZxB h hf hargs hv).mono ?_;rintro e w' ⟨cv,lam',ok',rfl,hE⟩;exact ⟨cv,lam',ok',rfl,hE⟩
theorem Zok {f:FuncId} {vs:Array Value} (h:ZzQ P f):(callFunc f vs).run P w= .ok (.enter f vs) w:=by
 obtain ⟨fn,h1,h2,h3⟩:=h;unfold callFunc;simp only [Sem.run_bind,run_program,Result.andThen_ok,h1,h2,Bool.false_eq_true,if_false,h3,Sem.run_pure]
theorem Zoj {tb:Nat} {f:FuncId} {args:List V} {K:OK} (h:Z2 P H tb f args K):ZzQ P f:=by
 obtain ⟨sh,ms,as,ps,bs,outs,res,H2,_,_,hok,_⟩:=h;exact hok.1
set_option maxHeartbeats 1000000 in
theorem ZwP (hT:TyOK P T) (h:Ctx okIn U w0 p w ok lam H) {i:Nat} (hf:Zey p (1000*(i+1))) {o:Oper} {ρ:Operand→V}
  (henv:∀x,VRel w ok lam H (ρ x) (a.eval x)) (hgood:∀x,ZaJ p (ρ x)) (hop:opVC T P i o ρ H (eqK v0 u0)):
  o.wp P a w (Zot okIn U w0 p (1000*(i+1)) w ok lam H a o.dst v0 u0) Q:=by
 have move:∀(x:Operand) (he:execOp a.eval o=pure (.value (a.eval x))),Zfu T (1000*(i+1)) o.type (ρ x) (eqK v0 u0)→o.wp P a w (Zot okIn U w0 p (1000*(i+1)) w ok lam H a o.dst v0 u0) Q:=by
  intro x he hm;have hx:=henv x;have plain:v0=ρ x∧u0=[]→o.wp P a w (Zot okIn U w0 p (1000*(i+1)) w ok lam H a o.dst v0 u0) Q:=by
   rintro ⟨rfl,rfl⟩;exact ZaQ (s:=pure (a.eval x)) (by rw [he];rfl) (Zbn.does h (g:=ZaJ p (ρ x)) (hgood x) ⟨_,rfl,rfl,hx,fun hg=>hg⟩)
  cases hρ:ρ x with
  |nils=>
   rw [hρ] at hm;simp only [Zfu] at hm;cases he2:Zca T o.type with
   |none=>rw [he2] at hm;simp only [Zfv] at hm;exact plain ⟨by rw [hρ];exact hm.1.symm,hm.2.symm⟩
   |some e=>
    rw [he2] at hm;simp only [Zfv] at hm;obtain ⟨rfl,rfl⟩:=hm;rw [hρ] at hx;have hxe:a.eval x= .slice none 0 0:=by generalize a.eval x=y at hx;cases hx;rfl
    obtain ⟨lam',ok',hE⟩:=ZjF (m:=ZaN T e) h hf;exact ZaQ (s:=pure (a.eval x)) (by rw [he];rfl) ⟨_,w,lam',ok',rfl,by rw [hxe];exact hE⟩
  |_=>rw [hρ] at hm;simp only [Zfu] at hm;exact plain ⟨by rw [hρ];exact hm.1.symm,hm.2.symm⟩
 obtain ⟨dst,op,ty,pos,after,guard⟩:=o;cases op with
 |move x=>
  obtain ⟨rfl,rfl⟩:=hop;exact ZaQ (s:=pure (a.eval x)) rfl (Zbn.does h (g:=ZaJ p (ρ x)) (hgood x) ⟨_,rfl,rfl,henv x,fun hg=>hg⟩)
 |assign x=>exact move x rfl hop
 |pick c x y=>
  refine ZaQ (s:=do pure (if ←asBool (a.eval c) then a.eval x else a.eval y)) ?_ (Zbn.does h ⟨hgood x,hgood y⟩ (ZrM (henv c) (henv x) (henv y) hop));simp [execOp]
 |alloc e=>
  obtain ⟨ti,hte,hz,hs,rfl,rfl⟩:=Zao hop;obtain ⟨info,d,z,ht⟩:=hT e ti hte;obtain ⟨lam',ok',hE⟩:=Zk6 (tb:=1000*(i+1)) (zs:=ti.zero) (Te:=e) h hf (ZmD ht.zrel) (ZkN _) (by rw [Zib];omega);refine ZaQ (s:=Instr.alloc e true (.tuple #[])) rfl ⟨_,_,lam',ok',?_,hE⟩;simp [Instr.alloc,ht.run_zero,newVar,newRow]
 |box e x=>
  obtain ⟨ti,hte,hb⟩:=Zao hop;obtain ⟨vs,hc,hl,hs,rfl,rfl⟩:=Zao hb;obtain ⟨lam',ok',hE⟩:=Zk6 (tb:=1000*(i+1)) (zs:=ti.zero) (Te:=e) h hf (V.cells_sound (henv x) hc) (ZlF hc (hgood x)) (by omega);refine ZaQ (s:=Instr.box e (a.eval x)) rfl ⟨_,_,lam',ok',?_,hE⟩;simp [Instr.box,newVar,newRow]
 |build t parts=>
  obtain ⟨⟨fs,n,zs⟩,hst,hzn,hall,hb⟩:=Zao hop;obtain ⟨cs,hcs,rfl,rfl⟩:=Zao hb;exact ZaQ (s:=Instr.build t (parts.map fun (i,x)=>(i,a.eval x))) rfl (Zbn.does h (fun q hq=>by
   obtain ⟨y,_,rfl⟩:=List.mem_map.1 hq;exact hgood y.2) (Zp1 hT hst hzn hall (Zm3 henv parts) hcs ⟨rfl,rfl⟩))
 |buildSlice t len parts=>
  obtain ⟨ti,hti,hl⟩:=Zao hop;exact ZaQ (s:=Instr.buildSlice t len (parts.map fun (i,x)=>(i,a.eval x))) rfl (Zy5 hT h hf hti (Zm3 henv parts) hl)
 |load t x=>
  obtain ⟨cv,hr,rfl,hv,hg⟩:=Zld (q:=p) hT h.hok (henv x) hop;exact ZaQ (s:=Instr.loadAt t (a.eval x)) rfl (Zbn.does (g:=True) h trivial ⟨cv,hr,rfl,hv,fun _=>hg h.good⟩)
 |store t x y=>
  obtain ⟨ti,hTt,hs⟩:=Zao hop;obtain ⟨vs,hc,hl,hsm,hone,hst⟩:=Zao hs;have hx:=henv x;have key:∀w',(Instr.storeAt t (a.eval x) (a.eval y)).run P w= .ok () w'→∀lam' ok',Eff okIn U w0 p (pX p (1000*(i+1))) w ok lam H v0 (updF u0 H) w' undef lam' ok'→
    Oper.wp P ⟨dst,.store t x y,ty,pos,after,guard⟩ a w (Zot okIn U w0 p (1000*(i+1)) w ok lam H a dst v0 u0) Q:=by
   intro w' hr lam' ok' hE;unfold Oper.wp;have:(execOp a.eval ⟨dst,.store t x y,ty,pos,after,guard⟩).run P w= .ok .skip w':=by simp [execOp,hr]
   rw [this];exact ⟨undef,lam',ok',rfl,hE⟩
  cases hρ:ρ x with
  |ref n off=>
   rw [hρ] at hst hx;obtain ⟨cells,hn,hle,rfl,rfl⟩:=Zuo hst;obtain ⟨w',lam',ok',hr,hE⟩:=ZmQ (P:=P) hT h hf hTt (henv y) hc (ZlF hc (hgood y)) hl hsm hone hx hn hle;exact key w' hr lam' ok' hE
  |el n i' j=>
   rw [hρ] at hst hx;obtain ⟨m,xs,hn,hst⟩:=Znd hst;obtain ⟨⟨ds,ls⟩,hcd,hi,hj,hls,rfl,rfl⟩:=Zao hst;obtain ⟨w',lam',ok',hr,hE⟩:=ZoM (P:=P) (tb:=1000*(i+1)) hT h hTt (henv y) hc hl hone hx hn hcd hi hj (by simpa using hls);exact key w' hr lam' ok' hE
  |_=>rw [hρ] at hst;simp [ZdU] at hst
 |nilCheck x=>
  obtain ⟨rfl,rfl,hcase⟩:=Zuu (henv x) hop;refine ZaQ (s:=pure (a.eval x)) ?_ (Zbn.does h (g:=ZaJ p (ρ x)) (hgood x) ⟨_,rfl,rfl,henv x,fun hg=>hg⟩);rcases hcase with ⟨A,hA⟩|⟨f,y,z,hA⟩<;>simp [execOp,hA]
 |binOp op t x y u=>
  exact ZaQ (s:=Zdy op t x y (a.eval x) (a.eval y)) rfl (Zbn.does (g:=True) h trivial (ZvW hT (henv x) (henv y) hop))
 |unOp op t x=>exact ZaQ (s:=Op.unary op (a.eval x)) rfl (Zbn.does (g:=True) h trivial (Zwr (henv x) hop))
 |convert s d x=>exact ZaQ (s:=convert s d (a.eval x)) rfl (ZvJ hT h hf (henv x) hop)
 |makeFunc fn first captured=>
  cases fn with
  |func f=>
   obtain ⟨h0,rfl,rfl⟩:=hop;have hfi:first= #[]:=by cases first;simp at h0;simp [h0]
   subst hfi;have hr:=Zl5 henv captured;have hcl:=VRel.clo (f:=f) hr.1 hr.2;have hev:(⟨(captured.map a.eval).toList⟩:Array Value)=captured.map a.eval:=rfl;rw [hev] at hcl;exact ZaQ (s:=Instr.makeFunc (.func f) (#[].map a.eval) (captured.map a.eval)) rfl (Zbn.does (g:=True) h trivial ⟨_,by simp [Instr.makeFunc],rfl,hcl,fun _=> .clo fun v hv=>by obtain ⟨y,_,rfl⟩:=List.mem_map.1 hv;exact hgood y⟩)
  |_=>exact hop.elim
 |makeSlice t l c=>
  obtain ⟨ti,hti,hm⟩:=Zao hop;exact ZaQ (s:=Instr.makeSlice t (a.eval l) (a.eval c)) rfl (ZwY hT h hf hti (henv l) (henv c) hm)
 |slice t x lo hi mx=>
  exact ZaQ (s:=Instr.sliceAt t (a.eval x) (lo.map a.eval) (hi.map a.eval) (mx.map a.eval)) rfl (Zbn.does h (hgood x) (ZoR hT (henv x) (orel henv lo) (orel henv hi) (orel henv mx) hop))
 |fieldAddr t x f=>
  obtain ⟨⟨off,ft⟩,hfo,hpos,hfa⟩:=Zao hop;exact ZaQ (s:=Instr.fieldAt t (a.eval x) f) rfl (Zbn.does h (hgood x) (Zxp hT hfo hpos (henv x) hfa))
 |field t x f=>
  obtain ⟨⟨off,ft⟩,hfo,hfv⟩:=Zao hop;exact ZaQ (s:=Instr.field t (a.eval x) f) rfl (Zbn.does h (hgood x) (Zpu hT hfo (henv x) hfv))
 |indexAddr t x y=>exact ZaQ (s:=Instr.indexAt t (a.eval x) (a.eval y)) rfl (Zbn.does h (hgood x) (Zpg hT (henv x) (henv y) hop))
 |index t x y=>
  obtain ⟨hs,hi⟩:=hop;exact ZaQ (s:=Instr.index t (a.eval x) (a.eval y)) rfl (Zbn.does (g:=True) h trivial (ZoK hT hs (henv x) (henv y) hi))
 |extract x n=>exact ZaQ (s:=Instr.extract (a.eval x) n) rfl (Zbn.does h (hgood x) (Zvp (henv x) hop))
 |call c=>
  obtain ⟨callee,args,argTypes⟩:=c;have hra:=Zl5 henv args;have direct:∀(x:Operand) (f:FuncId) (cs:List V) (cvs:List Value),a.eval x= .func (.func f) #[] ⟨cvs⟩→Rel2 (VRel w ok lam H) cs cvs→Z2 P H (1000*(i+1)) f (args.toList.map ρ++cs) (eqK v0 u0)→
    Oper.wp P ⟨dst,.call ⟨.value x,args,argTypes⟩,ty,pos,after,guard⟩ a w (Zot okIn U w0 p (1000*(i+1)) w ok lam H a dst v0 u0) Q:=by
   intro x f cs cvs hx hcs hv;refine Zzx (vs:=(args.map a.eval).toList++cvs) h hf (hra.append hcs) ?_ hv;simp only [execOp,resolve,hx,Deferred.ofValue,Sem.run_bind,Sem.run_pure,Result.andThen_ok,invoke];rw [Zok (Zoj hv)];congr 2;apply Array.ext';simp
  cases callee with
  |builtin b=>
   have hop:ZaC T H (1000*(i+1)) b argTypes.toList (args.toList.map ρ) (eqK v0 u0):=hop;have he:∃cs,execOp a.eval ⟨dst,.call ⟨.builtin b,args,argTypes⟩,ty,pos,after,guard⟩=builtin b argTypes ty cs (args.map a.eval):=by
    simp only [execOp,resolve,pure_bind,invoke];exact ⟨_,rfl⟩
   obtain ⟨cs,he⟩:=he;have hal:∀l,args.toList.map ρ=l→l.length=(args.map a.eval).size:=fun l hl=>by rw [←hl];simp
   generalize hm:args.toList.map ρ=l at hop hra;have hsz:=hal l hm;obtain ⟨vs,hvs⟩:∃vs,args.map a.eval=⟨vs⟩:=⟨_,rfl⟩;rw [hvs] at he hra;simp only at hra;cases l with
   |nil=>simp [ZaC] at hop
   |cons x l=>
    obtain ⟨xv,rest,rfl,hx,hrest⟩:=hra.uncons;cases l with
    |nil=>
     obtain rfl:=hrest.nil_left;cases b<;>simp only [ZaC] at hop
     case len=>
      cases hat:argTypes.toList.head? with
      |none=>rw [hat] at hop;simp at hop;cases x<;>first|(simp [Zgc,Zhn,isSl,Req] at hop;done)|(rename_i y;cases y<;>simp [Zgc,Zhn,isSl,Req] at hop)
      |some t=>
       rw [hat] at hop;simp only [Option.bind_some] at hop;have ht0:argTypes[0]? =some t:=by rw [←Array.getElem?_toList,←List.head?_eq_getElem?];exact hat
       exact ZaQ (s:=Builtin.len_ argTypes ty #[xv]) (by rw [he];rfl) (Zbn.does (g:=True) h trivial (ZuJ hT ht0 hx hop))
     case clear=>
      obtain ⟨ti,hti,hop⟩:=Zao hop;cases hat:argTypes.toList.head? with
      |none=>rw [hat] at hti;simp at hti
      |some t=>
       rw [hat] at hti;simp only [Option.bind_some] at hti;have ht0:argTypes[0]? =some t:=by rw [←Array.getElem?_toList,←List.head?_eq_getElem?];exact hat
       exact ZaQ (s:=Builtin.clear_ argTypes ty #[xv]) (by rw [he];rfl) (ZsW hT h ht0 hti hx hop)
    |cons y l=>
     obtain ⟨yv,rest,rfl,hy,hrest⟩:=hrest.uncons;cases l with
     |cons z l=>simp [ZaC] at hop
     |nil=>
      obtain rfl:=hrest.nil_left;cases b<;>simp only [ZaC] at hop
      case append=>
       cases hint:Zgo T argTypes.toList[1]? with
       |true=>
        simp only [ZcO] at hop;rw [hint] at hop;obtain ⟨e,hbe,hop2⟩:=Zao (hop:Zab _ _);obtain ⟨ti,hti,hop3⟩:=Zao hop2;obtain ⟨_|⟨t1,ts⟩⟩:=argTypes
        ·simp at hbe
        ·simp at hbe;cases ts with
         |nil=>simp [Zgo] at hint
         |cons t2 ts=>
          obtain ⟨it,hTt,hkt⟩:=Zc7 hbe;obtain ⟨info,d,z,ht⟩:=hT t1 it hTt;obtain rfl:d= .slice e:=Zbl (hkt▸ht.kind);obtain ⟨infoe,de,ze,hte⟩:=hT e ti hti;obtain ⟨cv,w',lam',ok',hr,hE⟩:=ZxM (rty:=ty) (tx:=t2) hT h hf ht hte hx hy (by simpa using hint) hop3;refine ZaQ (s:=Builtin.append_ ⟨t1::t2::ts⟩ ty #[xv,yv]) (by rw [he];rfl) ⟨cv,w',lam',ok',?_,hE⟩;rw [←hr];unfold Builtin.append_;rfl
       |false=>
       simp only [ZcO] at hop;rw [hint] at hop;obtain ⟨hst,hop1⟩:=(hop:Req _ _);obtain ⟨e,hbe,hop2⟩:=Zao hop1;obtain ⟨ti,hti,hop3⟩:=Zao hop2;obtain ⟨ys,hys,hop4⟩:=Zao hop3;obtain ⟨_|⟨t1,ts⟩⟩:=argTypes
       ·simp at hbe
       ·simp at hbe;cases ts with
        |nil=>simp [ZkC] at hst
        |cons t2 ts=>
         obtain ⟨it,hTt,hkt⟩:=Zc7 hbe;obtain ⟨info,d,z,ht⟩:=hT t1 it hTt;obtain rfl:d= .slice e:=Zbl (hkt▸ht.kind);obtain ⟨infoe,de,ze,hte⟩:=hT e ti hti;have hd:=Zv4 (rty:=ty) (tx:=t2) hT h hf ht hte hx hy hys (by simpa using hst) hop4;refine ZaQ (s:=Builtin.append_ ⟨t1::t2::ts⟩ ty #[xv,yv]) (by rw [he];rfl) ?_;obtain ⟨cv,w',lam',ok',hr,hE⟩:=hd;refine ⟨cv,w',lam',ok',?_,hE⟩;rw [←hr];unfold Builtin.append_;rfl
      case min=>
       obtain ⟨v,hv,rfl,rfl⟩:=Zao hop;exact ZaQ (s:=Builtin.min_ argTypes ty #[xv,yv]) (by rw [he];rfl) (Zbn.does (g:=True) h trivial (Zuz hx hy hv ⟨rfl,rfl⟩))
      case max=>
       obtain ⟨v,hv,rfl,rfl⟩:=Zao hop;exact ZaQ (s:=Builtin.max_ argTypes ty #[xv,yv]) (by rw [he];rfl) (Zbn.does (g:=True) h trivial (ZuE hx hy hv ⟨rfl,rfl⟩))
  |value x=>
   have tmp:ZbD P H (1000*(i+1)) (args.toList.map ρ) (ρ x) (eqK v0 u0)→Oper.wp P ⟨dst,.call ⟨.value x,args,argTypes⟩,ty,pos,after,guard⟩ a w (Zot okIn U w0 p (1000*(i+1)) w ok lam H a dst v0 u0) Q:=by
    intro hv;have hx:=henv x;generalize hρ:ρ x=y at hv hx;cases y with
    |d z=>
     cases z with
     |clo f cs=>
      generalize hev:a.eval x=av at hx;cases hx.inv_d with|clo _ _ vs hl hd=>
      exact direct x f _ vs hev (Rel2.dV ⟨hl,hd⟩) hv
     |_=>simp [ZbD] at hv
    |clo f cs=>
     generalize hev:a.eval x=av at hx;cases hx with|clo hl hd=>
     exact direct x f _ _ hev ⟨hl,hd⟩ hv.2
    |_=>simp [ZbD] at hv
   cases x with
   |func f=>
    have hop':Z2 P H (1000*(i+1)) f (args.toList.map ρ) (eqK v0 u0):=hop;exact direct (.func f) f [] [] rfl (Rel2.nil _) (by rw [List.append_nil];exact hop')
   |tmp t=>exact tmp hop
   |const v=>exact tmp hop
   |global g=>exact tmp hop
  |invoke r m=>exact hop.elim
 |_=>exact hop.elim
end
end Go.Rx
namespace Go.Rx
open Go Go.RowKit
section
variable {h h':Heap}
theorem Zrl {v:V} (hh:∀n∈refC v,h n=h' n):cD h v=cD h' v:=by
 cases v<;>first
  |rfl
  |(simp only [cD];rw [hh _ (by simp [refC])])
theorem Zh6:∀ {vs:List V},(∀v∈vs,∀n∈refC v,h n=h' n)→cDs h vs=cDs h' vs
 |[],_=>rfl
 |v::vs,hh=>by
  simp only [cDs];rw [Zrl (hh v (by simp)),Zh6 fun x hx=>hh x (by simp [hx])]
theorem ZwK {n:Nat} (hh:h n=h' n):refO h n=refO h' n:=by simp only [refO,hh]
def ZhG (h:Heap) (l:List Nat) (n:Nat):Prop:=∃k∈l,n=k∨n∈refO h k
theorem ZyC {v:V} (hh:∀n,ZhG h (refC v) n→h n=h' n):toP h v=toP h' v:=by
 cases v with
 |ref n off=>
  have hn:h n=h' n:=hh n ⟨n,by simp [refC],.inl rfl⟩;simp only [toP];rw [←hn];cases hb:h n with
  |none=>rfl
  |some o=>
   cases o with
   |arr=>rfl
   |box cells=>
    simp only;rw [Zh6 (h:=h) (h':=h')];intro v hv k hk;exact hh k ⟨n,by simp [refC],.inr (by simp only [refO,hb,List.mem_cons,List.mem_flatMap];exact .inr ⟨v,hv,hk⟩)⟩
 |_=>simp only [toP];apply Zrl;intro n hn;exact hh n ⟨n,hn,.inl rfl⟩
theorem Zqu:∀ {vs:List V},(∀n,ZhG h (vs.flatMap refC) n→h n=h' n)→toPs h vs=toPs h' vs
 |[],_=>rfl
 |v::vs,hh=>by
  simp only [toPs];rw [ZyC fun n ⟨k,hk,hn⟩=>hh n ⟨k,by simp [hk],hn⟩,Zqu fun n ⟨k,hk,hn⟩=>hh n ⟨k,by rw [List.flatMap_cons];exact List.mem_append.2 (.inr hk),hn⟩]
theorem ZyD {v:V} (hh:∀n,ZhG h (refV v) n→h n=h' n):toD h v=toD h' v:=by
 cases v with
 |agg vs=>
  simp only [toD];rw [Zh6 (h:=h) (h':=h')];intro x hx n hn;exact hh n ⟨n,by simp only [refV,refA,List.mem_flatMap];exact ⟨x,hx,hn⟩,.inl rfl⟩
 |clo f vs=>
  simp only [toD];rw [Zqu (h:=h) (h':=h')];exact hh
 |tup vs=>rfl
 |_=>simp only [toD];apply Zrl;intro n hn;exact hh n ⟨n,hn,.inl rfl⟩
theorem Zwu {v:V} (hv:∀f vs,v≠ .clo f vs) (hh:∀n∈refV v,h n=h' n):toD h v=toD h' v:=by
 cases v with
 |agg vs=>
  simp only [toD];rw [Zh6 (h:=h) (h':=h')];intro x hx n hn;exact hh n (by simp only [refV,refA,List.mem_flatMap];exact ⟨x,hx,hn⟩)
 |clo f vs=>exact absurd rfl (hv f vs)
 |tup vs=>rfl
 |_=>simp only [toD];apply Zrl;intro n hn;exact hh n hn
theorem Zlr:∀ {vs:List V} {ms:List Bool},(∀n,ZhG h (vs.flatMap refV) n→h n=h' n)→ZbT h ms vs=ZbT h' ms vs
 |[],_,_=>rfl
 |v::vs,ms,hh=>by
  have h1:∀n,ZhG h (refV v) n→h n=h' n:=fun n ⟨k,hk,hn⟩=>hh n ⟨k,by simp [hk],hn⟩
  have h2:∀n,ZhG h (vs.flatMap refV) n→h n=h' n:=fun n ⟨k,hk,hn⟩=>hh n ⟨k,by rw [List.flatMap_cons];exact List.mem_append.2 (.inr hk),hn⟩
  simp only [ZbT];rw [Zlr h2];have h3:=ZyD h1;cases ZbT h' (ms.drop 1) vs with
  |none=>rfl
  |some q=>
   obtain ⟨as,ps,bs⟩:=q;simp only;have hd:Zdt h v as ps bs=Zdt h' v as ps bs:=by unfold Zdt;rw [h3]
   cases v with
   |ref n off=>
    have hn:h n=h' n:=h1 n ⟨n,by simp [refV,refA,refC],.inl rfl⟩;cases off with
    |zero=>cases ms.headD false<;>simp only [Zb8]<;>rw [ZwK hn,←hn]
    |succ k=>cases ms.headD false<;>exact hd
   |own n off len=>
    have hn:h n=h' n:=h1 n ⟨n,by simp [refV,refA,refC],.inl rfl⟩;cases ms.headD false with
    |false=>exact hd
    |true=>simp only [Zb8];rw [hn]
   |nils=>cases ms.headD false with
    |false=>exact hd
    |true=>rfl
   |_=>cases ms.headD false<;>exact hd
theorem Zsk {v:V} {as as1:List Arg} {ps bs ps1 bs1:List Nat} {m:Bool} (hg:Zb8 h as1 ps1 bs1 m v=some (as,ps,bs)):
  (∃a,as=a::as1∧∀n off len,a= .own n off len→n∈ps)∧(∀n∈ps1,n∈ps)∧∀n∈ps,n∈ps1∨ZhG h (refV v) n:=by
 have hd:Zdt h v as1 ps1 bs1=some (as,ps,bs)→(∃a,as=a::as1∧∀n off len,a= .own n off len→n∈ps)∧(∀n∈ps1,n∈ps)∧∀n∈ps,n∈ps1∨ZhG h (refV v) n:=fun hg=>by
  unfold Zdt at hg;split at hg
  ·simp at hg;obtain ⟨rfl,rfl,_⟩:=hg;exact ⟨⟨_,rfl,fun _ _ _ e=>by cases e⟩,fun _ h=>h,fun _ h=> .inl h⟩
  ·simp at hg
 cases v with
 |ref n0 off=>
  cases off with
  |zero=>
   have hg':(match h n0 with|some (.box _)=>some (Arg.box n0::as1,refO h n0++ps1,bs1)|_=>none)=some (as,ps,bs):=by cases m<;>exact hg
   split at hg'
   ·simp at hg';obtain ⟨rfl,rfl,_⟩:=hg';exact ⟨⟨_,rfl,fun _ _ _ e=>by cases e⟩,fun _ h=>List.mem_append_right _ h,fun n hn=>(List.mem_append.1 hn).elim (fun hn=> .inr ⟨n0,by simp [refV,refA,refC],.inr hn⟩) .inl⟩
   ·simp at hg'
  |succ k=>cases m<;>exact hd hg
 |own n0 off len=>
  cases m with
  |false=>exact hd hg
  |true=>
   simp only [Zb8] at hg;split at hg
   ·simp at hg;obtain ⟨rfl,rfl,_⟩:=hg;exact ⟨⟨_,rfl,fun _ _ _ e=>by cases e;simp⟩,fun _ h=>List.mem_cons_of_mem _ h,fun n hn=>(List.mem_cons.1 hn).elim (fun e=> .inr ⟨n0,by simp [refV,refA,refC],.inl e⟩) .inl⟩
   ·simp at hg
 |nils=>
  cases m with
  |false=>exact hd hg
  |true=>
   simp [Zb8] at hg;obtain ⟨rfl,rfl,_⟩:=hg;exact ⟨⟨_,rfl,fun _ _ _ e=>by cases e⟩,fun _ h=>h,fun _ h=> .inl h⟩
 |_=>cases m<;>exact hd hg
theorem ZnJ:∀ {vs:List V} {ms:List Bool} {as:List Arg} {ps bs:List Nat},ZbT h ms vs=some (as,ps,bs)→(∀n∈ps,ZhG h (vs.flatMap refV) n)∧∀n off len,Arg.own n off len∈as→n∈ps
 |[],ms,as,ps,bs,hg=>by simp [ZbT] at hg;obtain ⟨rfl,rfl,_⟩:=hg;exact ⟨by simp,by simp⟩
 |v::vs,ms,as,ps,bs,hg=>by
  simp only [ZbT] at hg;cases hr:ZbT h (ms.drop 1) vs with
  |none=>rw [hr] at hg;cases hg
  |some q=>
   obtain ⟨as1,ps1,bs1⟩:=q;obtain ⟨ih,ih2⟩:=ZnJ hr;rw [hr] at hg;obtain ⟨⟨a,rfl,g1⟩,g2,g3⟩:=Zsk hg;refine ⟨fun n hn=>?_,fun n off len hm=>?_⟩
   ·rcases g3 n hn with hn|⟨k,hk,h3⟩
    ·obtain ⟨k,hk,h3⟩:=ih n hn;exact ⟨k,by rw [List.flatMap_cons];exact List.mem_append.2 (.inr hk),h3⟩
    ·exact ⟨k,by rw [List.flatMap_cons];exact List.mem_append.2 (.inl hk),h3⟩
   ·rcases List.mem_cons.1 hm with e|hm
    ·exact g1 n off len e.symm
    ·exact g2 n (ih2 n off len hm)
theorem Zk3 {H':List (Nat×AObj)}:∀ {as:List Arg} {os:List V},(∀n off len,Arg.own n off len∈as→h n=h' n)→ZdY h H' as os→ZdY h' H' as os
 |[],_,_,hf=>by simp [ZdY]
 |a::as,[],_,hf=>by cases a<;>simp [ZdY]
 |a::as,o::os,hh,hf=>by
  have ih:ZdY h H' as os→ZdY h' H' as os:=Zk3 fun n off len hm=>hh n off len (List.mem_cons_of_mem _ hm)
  cases a with
  |own n off len=>
   cases o with
   |own k off' len'=>exact ⟨hh n off len List.mem_cons_self▸hf.1,ih hf.2⟩
   |_=>exact ih hf
  |_=>exact ih hf
theorem ZqS (r:Nat→Option Nat):∀ {l:List Nat} {k:Nat},(∀n∈l,h n=h' n)→objs h r k l=objs h' r k l
 |[],_,_=>rfl
 |n::l,k,hh=>by
  simp only [objs];rw [hh n (by simp),ZqS r fun m hm=>hh m (by simp [hm])]
theorem Zh5 {P:Program} {tb:Nat} {f:FuncId} {args:List V} {K:OK} (hh:∀n,ZhG h (args.flatMap refV) n→h n=h' n) (hv:Z2 P h tb f args K):Z2 P h' tb f args K:=by
 obtain ⟨sh,ms,as,ps,bs,outs,res,H2,hg,h1,h2,h3,h4,h5⟩:=hv;have hh:∀n,ZhG h ((Zgf sh args).flatMap refV) n→h n=h' n:=fun n ⟨k,hk,hn⟩=>hh n ⟨k,ZnW hk,hn⟩
 obtain ⟨g1,g2⟩:=ZnJ hg;refine ⟨sh,ms,as,ps,bs,outs,res,H2,by rw [←Zlr hh];exact hg,h1,?_,h3,Zk3 (fun n off len hm=>hh n (g1 n (g2 n off len hm))) h4,h5⟩;rw [←ZqS _ fun n hn=>hh n (g1 n hn)];exact h2
theorem ZqF {l:List Nat} {n:Nat} (hn:ZhG h l n):n∈l.flatMap fun k=>k::refO h k:=by
 obtain ⟨k,hk,hn⟩:=hn;exact List.mem_flatMap.2 ⟨k,hk,by rcases hn with rfl|hn<;>simp [*]⟩
variable {T:Tys} {P:Program} {K:OK} {tb t:Nat}
theorem Zr2 {x:V} (hh:∀n∈refV x,h n=h' n) (hv:Zcy T h t x K):Zcy T h' t x K:=by
 cases x<;>first
  |exact hv
  |(rename_i y;cases y<;>exact hv)
  |(simp only [Zcy] at hv ⊢;rw [←hh _ (by simp [refV,refA,refC])];exact hv)
theorem ZoL {ti:TI} {vs:List V} {x:V} (hh:∀n∈refV x,h n=h' n) (h2:∀v∈vs,∀n∈refC v,h n=h' n) (hv:ZdU h tb ti vs x K):ZdU h' tb ti vs x K:=by
 cases x<;>first
  |exact hv
  |(simp only [ZdU] at hv ⊢;rw [←hh _ (by simp [refV,refA,refC])];first|exact hv|(rw [←Zh6 h2];exact hv))
theorem ZlE {x:V} {vs:List V} (hc:x.cells=some vs) {v:V} (hv:v∈vs) {n:Nat} (hn:n∈refC v):n∈refV x:=by
 cases x with
 |agg cs=>simp [V.cells] at hc;subst hc;simp only [refV,refA,List.mem_flatMap];exact ⟨v,hv,hn⟩
 |d y=>
  exfalso
  cases y<;>simp [V.cells] at hc<;>first
   |(subst hc;simp at hv;subst hv;simp [refC] at hn;done)
   |(subst hc;simp at hv;obtain ⟨z,_,rfl⟩:=hv;simp [refC] at hn)
 |tup=>simp [V.cells] at hc
 |dead=>simp [V.cells] at hc
 |clo f cs=>simp [V.cells] at hc;subst hc;simp at hv;subst hv;simp [refC] at hn
 |_=>simp [V.cells] at hc;subst hc;simp at hv;subst hv;exact hn
theorem Zin:∀ {k:Nat} {l:List (Nat×V)},(∀q∈l,∀n∈refV q.2,h n=h' n)→ZbM h k l=ZbM h' k l
 |_,[],_=>rfl
 |k,(i,v)::l,hh=>by
  simp only [ZbM];rw [Zin fun q hq=>hh q (by simp [hq])];have:Zfx h (i==k) v.cells=Zfx h' (i==k) v.cells:=by
   cases hb:i==k<;>cases hc:v.cells<;>simp only [Zfx];exact Zh6 fun x hx n hn=>hh (i,v) (by simp) n (ZlE hc hx hn)
  rw [this]
theorem ZoS {x : V} {lo hi mx : Option V} (hh : ∀ n ∈ refV x, h n = h' n) (hv : ZaS T h t x lo hi mx K) : ZaS T h' t x lo hi mx K := by
  cases x <;> first
    | exact hv
    | (cases mx with
       | none => simp only [ZaS] at hv ⊢; rw [← hh _ (by simp [refV, refA, refC])]; exact hv
       | some _ => exact hv)
    | (rename_i y; cases y <;> cases mx <;> exact hv)
    | (cases mx <;> exact hv)
theorem Zph {e:Option Nat} {x i:V} (hh:∀n∈refV x,h n=h' n) (hv:Zb7 T h e x i K):Zb7 T h' e x i K:=by
 cases x<;>first
  |exact hv
  |(rename_i y;cases y<;>exact hv)
  |(simp only [Zb7] at hv ⊢;rw [←hh _ (by simp [refV,refA,refC])];exact hv)
theorem Zuw {x:V} (hh:∀n∈refV x,h n=h' n) (hv:Zfs h x K):Zfs h' x K:=by
 cases x<;>first
  |exact hv
  |(rename_i y;cases y<;>exact hv)
  |(simp only [Zfs] at hv ⊢;rw [←hh _ (by simp [refV,refA,refC])];exact hv)
theorem Zxq {off:Nat} {x:V} (hh:∀n∈refV x,h n=h' n) (hv:faVC h off x K):faVC h' off x K:=by
 cases x<;>first
  |exact hv
  |(rename_i y;cases y<;>exact hv)
  |(simp only [faVC] at hv ⊢;rw [←hh _ (by simp [refV,refA,refC])];exact hv)
theorem Zqz {x:V} (hh:∀n∈refV x,h n=h' n):slOf (toD h x)=slOf (toD h' x):=by
 cases x with
 |clo f vs=>
  simp only [toD];cases toPs h vs<;>cases toPs h' vs<;>rfl
 |_=>rw [Zwu (by simp) hh]
theorem ZsV {ck:CK} {x:V} (hh:∀n∈refV x,h n=h' n) (hv:Zbm h tb ck x K):Zbm h' tb ck x K:=by
 cases ck with
 |toStr=>simp only [Zbm] at hv ⊢;rw [←Zqz hh];exact hv
 |_=>cases x<;>first|exact hv|(rename_i y;cases y<;>exact hv)
theorem ZuK {ot:Option TI} {x:V} (hh:∀n∈refV x,h n=h' n) (hv:Zgc h ot x K):Zgc h' ot x K:=by
 cases x<;>first
  |exact hv
  |(rename_i y;cases y<;>exact hv)
  |(simp only [Zgc] at hv ⊢;rw [←hh _ (by simp [refV,refA,refC])];exact hv)
theorem Zv3 {e:TI} {x:V} {ys:List (List D)} (hh:∀n∈refV x,h n=h' n) (hv:Zex h tb e x ys K):Zex h' tb e x ys K:=by
 cases x with
 |own n off len=>
  cases off with
  |zero=>simp only [Zex] at hv ⊢;rw [←hh _ (by simp [refV,refA,refC])];exact hv
  |succ k=>exact hv
 |_=>exact hv
theorem Zor {ty ty2:Option Nat} {s x:V} (hs:∀n∈refV s,h n=h' n) (hh:∀n∈refV x,h n=h' n) (hv:ZcO T h tb ty ty2 s x K):ZcO T h' tb ty ty2 s x K:=by
 unfold ZcO at hv ⊢;cases hi:Zgo T ty2 with
 |true=>rw [hi] at hv;exact hv
 |false=>
  rw [hi] at hv;obtain ⟨h1,hv⟩:=(hv:Req _ _);refine (show Req _ _ from ⟨h1,?_⟩);obtain ⟨e,he,hv⟩:=Zao hv;obtain ⟨i,hi,hv⟩:=Zao hv;obtain ⟨ys,hys,hv⟩:=Zao hv;simp only [he,Zab,hi,←Zqz hh,hys];exact Zv3 hs hv
theorem ZpX {ti:TI} {x:V} (hh:∀n∈refV x,h n=h' n) (hv:Zew h ti x K):Zew h' ti x K:=by
 cases x with
 |own n off len=>simp only [Zew] at hv ⊢;rw [←hh n (by simp [refV,refA,refC])];exact hv
 |_=>exact hv
theorem Zmt {b : Builtin} {ts : List Nat} {args : List V} (hh : ∀ n ∈ args.flatMap refV, h n = h' n) (hv : ZaC T h tb b ts args K) : ZaC T h' tb b ts args K := by
  match args, hh, hv with
  | [x], hh, hv =>
    cases b <;> first
      | exact hv
      | exact ZuK (fun n hn => hh n (by simpa using hn)) hv
      | (obtain ⟨ti, hti, hv⟩ := Zao hv
         simp only [ZaC, hti, Zab];exact ZpX (fun n hn => hh n (by simpa using hn)) hv)
  | [x, y], hh, hv =>
    cases b <;> first
      | exact hv
      | exact Zor (fun n hn => hh n (by simp [hn])) (fun n hn => hh n (by simp [hn])) hv
  | [], _, hv => exact hv
  | _ :: _ :: _ :: _, _, hv => exact hv
theorem Zoi {args:List V} {x:V} (hh:∀n,ZhG h ((x::args).flatMap refV) n→h n=h' n) (hv:ZbD P h tb args x K):ZbD P h' tb args x K:=by
 cases x with
 |d y=>
  cases y with
  |clo f cs=>
   refine Zh5 (fun n ⟨k,hk,hn⟩=>hh n ⟨k,?_,hn⟩) hv;rw [List.flatMap_append] at hk;rcases List.mem_append.1 hk with hk|hk
   ·rw [List.flatMap_cons];exact List.mem_append.2 (.inr hk)
   ·obtain ⟨z,hz,hk⟩:=List.mem_flatMap.1 hk;obtain ⟨u,_,rfl⟩:=List.mem_map.1 hz;simp [refV,refA,refC] at hk
  |_=>exact hv
 |clo f vs=>
  refine ⟨hv.1,Zh5 (fun n ⟨k,hk,hn⟩=>hh n ⟨k,?_,hn⟩) hv.2⟩;rw [List.flatMap_append] at hk;rw [List.flatMap_cons];rcases List.mem_append.1 hk with hk|hk
  ·exact List.mem_append.2 (.inr hk)
  ·refine List.mem_append.2 (.inl ?_);obtain ⟨z,hz,hk⟩:=List.mem_flatMap.1 hk;have hc:z.isC=true:=List.all_eq_true.1 hv.1 z hz;refine List.mem_flatMap.2 ⟨z,hz,?_⟩;cases z<;>first|exact hk|(simp [V.isC] at hc)
 |_=>exact hv
theorem ZwR {i:Nat} {o:Oper} {ρ ρ':Operand→V} (hx:∀x∈o.op.operands,ρ x=ρ' x) (hh:∀n∈rdN o ρ h,h n=h' n) (hv:opVC T P i o ρ h K):opVC T P i o ρ' h' K:=by
 obtain ⟨dst,op,ty,pos,after,guard⟩:=o;cases op with
 |move x=>simp only [opVC] at hv ⊢;rw [←hx x (by simp [Op.operands])];exact hv
 |assign x=>simp only [opVC] at hv ⊢;rw [←hx x (by simp [Op.operands])];exact hv
 |pick c x y=>simp only [opVC] at hv ⊢;rw [←hx x (by simp [Op.operands]),←hx y (by simp [Op.operands]),←hx c (by simp [Op.operands])];exact hv
 |alloc e=>exact hv
 |box e x=>simp only [opVC] at hv ⊢;rw [←hx x (by simp [Op.operands])];exact hv
 |build t parts=>
  have:parts.toList.map (fun q=>(q.1,ρ' q.2))=parts.toList.map fun q=>(q.1,ρ q.2):=List.map_congr_left fun q hq=>by
   rw [hx q.2 (by simp [Op.operands];exact ⟨q.1,by simpa using hq⟩)]
  simp only [opVC] at hv ⊢;rw [this];exact hv
 |buildSlice t len parts=>
  have:parts.toList.map (fun q=>(q.1,ρ' q.2))=parts.toList.map fun q=>(q.1,ρ q.2):=List.map_congr_left fun q hq=>by
   rw [hx q.2 (by simp [Op.operands];exact ⟨q.1,by simpa using hq⟩)]
  simp only [opVC] at hv ⊢;rw [this,←Zin (h:=h) (h':=h')]
  ·exact hv
  ·intro q hq n hn;obtain ⟨z,hz,rfl⟩:=List.mem_map.1 hq;exact hh n (List.mem_flatMap.2 ⟨z,hz,hn⟩)
 |load t x=>simp only [opVC] at hv ⊢;rw [←hx x (by simp [Op.operands])];exact Zr2 hh hv
 |store t x y=>
  simp only [opVC] at hv ⊢;rw [←hx x (by simp [Op.operands]),←hx y (by simp [Op.operands])];obtain ⟨ti,h1,hv⟩:=Zao hv;obtain ⟨vs,h2,h3,h4,h5,hv⟩:=Zao hv;simp only [Zgu,h1,h2,Zab];exact ⟨h3,h4,h5,ZoL (fun n hn=>hh n (List.mem_append.2 (.inl hn))) (fun v hv n hn=>hh n (List.mem_append.2 (.inr (ZlE h2 hv hn)))) hv⟩
 |nilCheck x=>simp only [opVC] at hv ⊢;rw [←hx x (by simp [Op.operands])];exact Zuw hh hv
 |binOp op t x y u=>simp only [opVC] at hv ⊢;rw [←hx x (by simp [Op.operands]),←hx y (by simp [Op.operands])];exact hv
 |unOp op t x=>simp only [opVC] at hv ⊢;rw [←hx x (by simp [Op.operands])];exact hv
 |convert s d x=>simp only [opVC] at hv ⊢;rw [←hx x (by simp [Op.operands])];exact ZsV hh hv
 |makeFunc fn first captured=>
  cases fn with
  |func f=>
   have:captured.toList.map ρ'=captured.toList.map ρ:=List.map_congr_left fun q hq=>by
    rw [hx q (by simp only [Op.operands];exact Array.mem_append.2 (.inr (by simpa using hq)))]
   simp only [opVC] at hv ⊢;rw [this];exact hv
  |_=>exact hv.elim
 |makeSlice t l c=>simp only [opVC] at hv ⊢;rw [←hx l (by simp [Op.operands]),←hx c (by simp [Op.operands])];exact hv
 |slice t x lo hi mx=>
  have e1:lo.map ρ'=lo.map ρ:=by cases lo with|none=>rfl|some z=>simp only [Option.map_some];rw [hx z (by simp [Op.operands])]
  have e2:hi.map ρ'=hi.map ρ:=by cases hi with|none=>rfl|some z=>simp only [Option.map_some];rw [hx z (by simp [Op.operands])]
  have e3:mx.map ρ'=mx.map ρ:=by cases mx with|none=>rfl|some z=>simp only [Option.map_some];rw [hx z (by simp [Op.operands])]
  simp only [opVC] at hv ⊢;rw [e1,e2,e3,←hx x (by simp [Op.operands])];exact ZoS hh hv
 |fieldAddr t x f=>
  simp only [opVC] at hv ⊢;obtain ⟨p,h1,h2,hv⟩:=Zao hv;rw [←hx x (by simp [Op.operands]),h1];exact ⟨h2,Zxq hh hv⟩
 |field t x f=>simp only [opVC] at hv ⊢;rw [←hx x (by simp [Op.operands])];exact hv
 |indexAddr t x y=>simp only [opVC] at hv ⊢;rw [←hx x (by simp [Op.operands]),←hx y (by simp [Op.operands])];exact Zph hh hv
 |index t x y=>simp only [opVC] at hv ⊢;rw [←hx x (by simp [Op.operands]),←hx y (by simp [Op.operands])];exact hv
 |extract x n=>simp only [opVC] at hv ⊢;rw [←hx x (by simp [Op.operands])];exact hv
 |call c=>
  obtain ⟨callee,args,ts⟩:=c;have hm:args.toList.map ρ'=args.toList.map ρ:=List.map_congr_left fun q hq=>by
   rw [hx q (by simp only [Op.operands,Call.operands];exact Array.mem_append.2 (.inr (by simpa using hq)))]
  have hsub:∀n,ZhG h ((args.toList.map ρ).flatMap refV) n→h n=h' n:=fun n hn=>hh n (by
   have:=ZqF hn;simp only [rdN];obtain ⟨k,hk,hn⟩:=List.mem_flatMap.1 this;refine List.mem_flatMap.2 ⟨k,?_,hn⟩;obtain ⟨v,hv,hk⟩:=List.mem_flatMap.1 hk;obtain ⟨z,hz,rfl⟩:=List.mem_map.1 hv;exact List.mem_flatMap.2 ⟨z,by simp only [Call.operands];rw [Array.mem_toList_iff];exact Array.mem_append.2 (.inr (Array.mem_toList_iff.1 hz)),hk⟩)
  cases callee with
  |builtin b=>simp only [opVC] at hv ⊢;rw [hm];exact Zmt (fun n hn=>hsub n ⟨n,hn,.inl rfl⟩) hv
  |value x=>
   have hxx:ρ x=ρ' x:=hx x (by simp [Op.operands,Call.operands]);have tmp:ZbD P h (1000*(i+1)) (args.toList.map ρ) (ρ x) K→ZbD P h' (1000*(i+1)) (args.toList.map ρ') (ρ' x) K:=fun hv=>by
    rw [hm,←hxx];refine Zoi (fun n hn=>?_) hv;have:=ZqF hn;refine hh n ?_;simp only [rdN];obtain ⟨k,hk,hn⟩:=List.mem_flatMap.1 this;refine List.mem_flatMap.2 ⟨k,?_,hn⟩;rw [List.flatMap_cons] at hk;rcases List.mem_append.1 hk with hk|hk
    ·exact List.mem_flatMap.2 ⟨x,by simp [Call.operands],hk⟩
    ·obtain ⟨v,hv,hk⟩:=List.mem_flatMap.1 hk;obtain ⟨z,hz,rfl⟩:=List.mem_map.1 hv;exact List.mem_flatMap.2 ⟨z,by simp only [Call.operands];rw [Array.mem_toList_iff];exact Array.mem_append.2 (.inr (Array.mem_toList_iff.1 hz)),hk⟩
   cases x with
   |func f=>simp only [opVC] at hv ⊢;rw [hm];exact Zh5 hsub hv
   |tmp t=>exact tmp hv
   |const v=>exact tmp hv
   |global g=>exact tmp hv
  |invoke r m=>exact hv.elim
 |_=>exact hv.elim
end
end Go.Rx
namespace Go.Rx
open Go Go.RowKit
def Wit (F:OK→Prop):Prop:=∀K,F K→∃v u,F (eqK v u)∧K v u
theorem Wit.leaf (v:V) (u:Upd):Wit fun K=>K v u:=fun _ h=>⟨v,u,⟨rfl,rfl⟩,h⟩
theorem Wit.no:Wit fun _=>False:=fun _ h=>h.elim
theorem Wit.and {p:Prop} {F:OK→Prop} (hF:Wit F):Wit fun K=>p∧F K:=fun K h=>
 let ⟨v,u,h1,h2⟩:=hF K h.2;⟨v,u,⟨h.1,h1⟩,h2⟩
theorem Wit.or {F G:OK→Prop} (hF:Wit F) (hG:Wit G):Wit fun K=>F K∨G K:=fun K h=>by
 rcases h with h|h
 ·obtain ⟨v,u,h1,h2⟩:=hF K h;exact ⟨v,u,.inl h1,h2⟩
 ·obtain ⟨v,u,h1,h2⟩:=hG K h;exact ⟨v,u,.inr h1,h2⟩
theorem Wit.ex {α:Sort _} {F:α→OK→Prop} (hF:∀x,Wit (F x)):Wit fun K=>∃x,F x K:=fun K ⟨x,h⟩=>
 let ⟨v,u,h1,h2⟩:=hF x K h;⟨v,u,⟨x,h1⟩,h2⟩
theorem Wit.some {α:Type} {o:Option α} {F:α→OK→Prop} (hF:∀x,Wit (F x)):Wit fun K=>Zab o fun x=>F x K:=by
 cases o with
 |none=>exact Wit.no
 |some x=>exact hF x
theorem Wit.box {o:Option AObj} {F:List V→OK→Prop} (hF:∀x,Wit (F x)):Wit fun K=>ZjB o fun x=>F x K:=by
 cases o with
 |none=>exact Wit.no
 |some x=>cases x with
  |box c=>exact hF c
  |arr=>exact Wit.no
theorem Wit.arr {o:Option AObj} {F:Nat→List (List D)→OK→Prop} (hF:∀x y,Wit (F x y)):Wit fun K=>Zb2 o fun x y=>F x y K:=by
 cases o with
 |none=>exact Wit.no
 |some x=>cases x with
  |box c=>exact Wit.no
  |arr m xs=>exact hF m xs
theorem Wit.obj {o:Option AObj} {F:OK→Prop} (hF:Wit F):Wit fun K=>ZjA o (F K):=by
 cases o with
 |none=>exact Wit.no
 |some x=>exact hF
theorem Wit.onInt {x:V} {F:IntKind→Int→OK→Prop} (hF:∀x y,Wit (F x y)):Wit fun K=>onInt x fun k n=>F k n K:=by
 cases x with
 |d y=>cases y with
  |int k n=>exact hF k n
  |_=>exact Wit.no
 |_=>exact Wit.no
section
variable {h:Heap} {T:Tys} {P:Program} {tb t:Nat}
theorem Zyq {op:BinOp} {k:IntKind} {a b:Int}:Wit (ZcP op k a b):=by
 cases op<;>first|exact Wit.no|exact Wit.leaf _ _|exact Wit.and (Wit.leaf _ _)
theorem Zym {op:BinOp} {a b:List UInt8}:Wit (Zg1 op a b):=by
 cases op<;>first|exact Wit.no|exact Wit.leaf _ _|exact Wit.and (Wit.leaf _ _)
theorem ZoE {op:BinOp} {b:Bool}:Wit (Zj8 op b):=by
 cases op<;>first|exact Wit.no|exact Wit.leaf _ _
theorem Zyt {op:BinOp} {k:TK} {x y:Option (List D)}:Wit (Zkp T op k x y):=by
 cases k<;>first
  |exact Wit.no
  |(cases x<;>first
    |exact Wit.no
    |(cases y<;>first
      |exact Wit.no
      |exact Wit.some fun b=>ZoE))
theorem Zty {op:BinOp} {b:Bool} {k:TK}:Wit (Zl9 op b k):=by
 cases k<;>first|exact Wit.no|exact ZoE
theorem Zys {op:BinOp} {x y:V}:Wit (ZgT T t op x y):=by
 unfold ZgT;intro K hv;split at hv
 ·exact Wit.and Zyq K hv
 ·exact Zym K hv
 ·exact Wit.some (fun b=>ZoE) K hv
 ·exact Zty K hv
 ·exact Zty K hv
 ·exact Zyt K hv
theorem ZlS {f:FuncId} {args:List V}:Wit (Z2 P h tb f args):=by
 unfold Z2;refine Wit.ex fun sh=>Wit.ex fun ms=>Wit.ex fun as=>Wit.ex fun ps=>Wit.ex fun bs=>Wit.ex fun outs=>Wit.ex fun res=>Wit.ex fun H'=>Wit.and (Wit.and (Wit.and (Wit.and (Wit.and (Wit.or (Wit.and (Wit.leaf _ _)) (Wit.leaf _ _))))))
theorem Zyp {ot:Option TI} {x:V}:Wit (Zgc h ot x):=by
 cases x<;>first
  |exact Wit.no
  |exact Wit.and (Wit.leaf _ _)
  |exact Wit.and (Wit.arr fun _ _=>Wit.leaf _ _)
  |(rename_i y;cases y<;>first|exact Wit.no|exact Wit.and (Wit.leaf _ _))
theorem ZtA {e:TI} {x:V} {ys:List (List D)}:Wit (Zex h tb e x ys):=by
 cases x with
 |own n off len=>cases off with
  |zero=>exact Wit.arr fun _ _=>Wit.and (Wit.and (Wit.leaf _ _))
  |succ k=>exact Wit.no
 |nils=>exact Wit.and (Wit.leaf _ _)
 |_=>exact Wit.no
theorem Zrv {ty ty2:Option Nat} {x y:V}:Wit (ZcO T h tb ty ty2 x y):=by
 unfold ZcO;cases Zgo T ty2 with
 |true=>
  show Wit fun K=>Zab (ty.bind (Zca T)) fun e=>Zab (T e) fun i=>appZ tb i x y K
  exact Wit.some fun _=>Wit.some fun i=>(by
   cases x<;>first
    |exact Wit.no
    |(cases y<;>first
      |exact Wit.no
      |(rename_i z;cases z<;>first|exact Wit.no|exact Wit.and (Wit.and (Wit.and (Wit.and (Wit.leaf _ _)))))))
 |false=>
  show Wit fun K=>Req _ _
  exact Wit.and (Wit.some fun _=>Wit.some fun _=>Wit.some fun _=>ZtA)
theorem ZoF {b:Builtin} {ts:List Nat} {args:List V}:Wit (ZaC T h tb b ts args):=by
 match args with
 |[x]=>cases b<;>first
   |exact Wit.no
   |exact Zyp
   |exact Wit.some fun _=>(by cases x<;>first|exact Wit.no|exact Wit.arr fun _ _=>Wit.and (Wit.and (Wit.leaf _ _)))
 |[x,y]=>
  cases b<;>first
   |exact Wit.no
   |exact Zrv
   |exact Wit.some fun v=>Wit.leaf v []
 |[]=>exact Wit.no
 |_::_::_::_=>exact Wit.no
theorem Ztx {x:V} {lo hi mx:Option V}:Wit (ZaS T h t x lo hi mx):=by
 cases mx with
 |some m=>intro K hv;cases x<;>first|exact hv.elim|(rename_i y;cases y<;>exact hv.elim)
 |none=>
  cases x<;>first
   |exact Wit.no
   |exact Wit.some fun _=>Wit.arr fun _ _=>Wit.and (Wit.and (Wit.some fun _=>Wit.some fun _=>Wit.and (Wit.and (Wit.and (Wit.leaf _ _)))))
   |exact Wit.some fun _=>Wit.and (Wit.some fun _=>Wit.some fun _=>Wit.and (Wit.and (Wit.leaf _ _)))
   |(rename_i y;cases y<;>first
     |exact Wit.no
     |exact Wit.and (Wit.some fun _=>Wit.some fun _=>Wit.and (Wit.and (Wit.and (Wit.leaf _ _))))
     |exact Wit.some fun _=>Wit.and (Wit.and (Wit.some fun _=>Wit.some fun _=>Wit.and (Wit.and (Wit.and (Wit.leaf _ _))))))
theorem Ztz {e:Option Nat} {x i:V}:Wit (Zb7 T h e x i):=by
 cases x<;>first
  |exact Wit.no
  |exact Wit.some fun _=>Wit.and (Wit.onInt fun _ _=>Wit.arr fun _ _=>Wit.and (Wit.and (Wit.and (Wit.and (Wit.leaf _ _)))))
  |(rename_i y;cases y<;>first
    |exact Wit.no
    |exact Wit.some fun _=>Wit.and (Wit.onInt fun _ _=>Wit.and (Wit.and (Wit.and (Wit.leaf _ _)))))
theorem Zqo {x:V}:Wit (Zcy T h t x):=by
 cases x<;>first
  |exact Wit.no
  |exact Wit.box fun _=>Wit.and (Wit.leaf _ _)
  |exact Wit.arr fun _ _=>Wit.and (Wit.and (Wit.leaf _ _))
  |(rename_i y;cases y<;>first|exact Wit.no|exact Wit.and (Wit.leaf _ _))
theorem ZoD {ti:TI} {vs:List V} {x:V}:Wit (ZdU h tb ti vs x):=by
 cases x<;>first
  |exact Wit.no
  |exact Wit.box fun _=>Wit.and (Wit.leaf _ _)
  |exact Wit.arr fun _ _=>Wit.some fun _=>Wit.and (Wit.and (Wit.and (Wit.leaf _ _)))
theorem Zwo {ck:CK} {x:V}:Wit (Zbm h tb ck x):=by
 cases ck<;>first
  |exact Wit.no
  |exact Wit.some fun _=>Wit.and (Wit.leaf _ _)
  |(cases x<;>first
    |exact Wit.no
    |(rename_i y;cases y<;>first|exact Wit.no|exact Wit.leaf _ _|exact Wit.and (Wit.leaf _ _)))
theorem Zwm {ty:Nat} {x:V}:Wit (Zfu T tb ty x):=by
 cases x<;>first
  |exact Wit.leaf _ _
  |(show Wit (Zfv T tb (Zca T ty));cases Zca T ty<;>exact Wit.leaf _ _)
theorem Zwl {c a b:V}:Wit (Zgl c a b):=by
 cases c with
 |d y=>cases y with
  |bool t=>exact Wit.leaf _ _
  |_=>exact Wit.no
 |_=>exact Wit.no
theorem Zyn {x:V}:Wit (Zfs h x):=by
 cases x<;>first
  |exact Wit.no
  |exact Wit.leaf _ _
  |exact Wit.obj (Wit.leaf _ _)
  |exact Wit.arr fun _ _=>Wit.leaf _ _
  |(rename_i y;cases y<;>first|exact Wit.no|exact Wit.leaf _ _)
theorem wit_un {op:UnOp} {x:V}:Wit (unVC op x):=by
 cases x with
 |d y=>cases y<;>first|exact Wit.no|(cases op<;>first|exact Wit.no|exact Wit.leaf _ _)
 |_=>exact Wit.no
theorem wit_fa {off:Nat} {x:V}:Wit (faVC h off x):=by
 cases x<;>first
  |exact Wit.no
  |exact Wit.obj (Wit.leaf _ _)
  |exact Wit.arr fun _ _=>Wit.leaf _ _
  |(rename_i y;cases y<;>first|exact Wit.no|exact Wit.leaf _ _)
theorem Ztw {x i:V}:Wit (ZkA x i):=by
 cases x with
 |d y=>cases y with
  |str s=>cases i with
   |d z=>cases z with
    |int k n=>exact Wit.and (Wit.and (Wit.leaf _ _))
    |_=>exact Wit.no
   |_=>exact Wit.no
  |_=>exact Wit.no
 |_=>exact Wit.no
theorem Zyr {ix:Nat} {x:V}:Wit (ZkJ ix x):=by
 cases x with
 |tup vs=>exact Wit.some fun v=>Wit.leaf v []
 |_=>exact Wit.no
theorem Zwn {ti:TI} {x y:V}:Wit (Zgn tb ti x y):=by
 cases x with
 |d a=>cases a with
  |int k n=>cases y with
   |d b=>cases b with
    |int k' n'=>exact Wit.and (Wit.and (Wit.and (Wit.and (Wit.and (Wit.leaf _ _)))))
    |_=>exact Wit.no
   |_=>exact Wit.no
  |_=>exact Wit.no
 |_=>exact Wit.no
theorem Zru {args:List V} {x:V}:Wit (ZbD P h tb args x):=by
 cases x with
 |d y=>cases y with
  |clo f cs=>exact ZlS
  |_=>exact Wit.no
 |clo f vs=>exact Wit.and ZlS
 |_=>exact Wit.no
theorem Zyo {len:Nat} {ti:TI} {o:Option (List (List D)×List Nat)}:Wit (ZjK tb len ti o):=by
 cases o with
 |none=>exact Wit.no
 |some q=>exact Wit.and (Wit.and (Wit.and (Wit.and (Wit.and (Wit.leaf _ _)))))
theorem ZqQ {i : Nat} {o : Oper} {ρ : Operand → V} : Wit (opVC T P i o ρ h) := by
  obtain ⟨dst, op, ty, pos, after, guard⟩ := o;cases op <;> first
    | exact Wit.no
    | exact Zwm
    | exact Wit.leaf _ _
    | exact Zwl
    | exact Wit.some fun ti => Wit.and (Wit.and (Wit.leaf _ _))
    | exact Wit.some fun ti => Wit.some fun vs => Wit.and (Wit.and (Wit.leaf _ _))
    | exact Wit.some fun _ => Wit.and (Wit.and (Wit.some fun cs => Wit.leaf _ _))
    | exact Wit.some fun _ => Zyo
    | exact Zqo
    | exact Wit.some fun _ => Wit.some fun _ => Wit.and (Wit.and (Wit.and ZoD))
    | exact Zyn
    | exact Zys
    | exact wit_un
    | exact Zwo (tb := 1000 * (i + 1))
    | exact Wit.some fun _ => Zwn
    | exact Ztx
    | exact Wit.some fun _ => Wit.and wit_fa
    | exact Wit.some fun _ => Wit.some fun _ => Wit.and (Wit.and (Wit.leaf _ _))
    | exact Ztz
    | exact Wit.and Ztw
    | exact Zyr
    | (rename_i fn _ _; cases fn <;> first | exact Wit.no | exact Wit.and (Wit.leaf _ _))
    | (rename_i c; obtain ⟨callee, args, ts⟩ := c
       cases callee <;> first
         | exact Wit.no
         | exact ZoF
         | (rename_i x; cases x <;> first | exact ZlS | exact Zru))
end
end Go.Rx
