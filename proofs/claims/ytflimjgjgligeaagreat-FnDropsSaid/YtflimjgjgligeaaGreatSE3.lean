/-
  Part E3: lemmas on an evaluator over plain data of the model's code, plain laws on lists and numbers, or contracts of functions of the program; each lemma names its conditions.
-/
import Derived.Test.YtflimjgjgligeaaGreatSE2

set_option linter.unusedSimpArgs false
set_option linter.unusedVariables false
namespace Go.Rx
open Go Go.RowKit
section
variable {P:Program} {T:Tys} {w:World} {ok:Nat→Prop} {lam:Nat→Option Nat} {H:Heap} {q:Nat→Prop} {v0:V} {u0:Upd}
theorem Zs8 {x:V} {xv:Value} {cs:List V} (hx:VRel w ok lam H x xv) (h:x.aggc=some cs):∃vs,xv= .agg ⟨vs⟩∧Rel2 (VRel w ok lam H) cs vs∧(ZaJ q x→∀v∈cs,ZaJ q v):=by
 cases x with
 |agg l=>simp [V.aggc] at h;subst h;obtain ⟨vs,rfl,hr⟩:=hx.inv_agg;exact ⟨vs,rfl,hr,fun hg=>by cases hg with|agg hg=>exact hg⟩
 |d y=>
  cases y with
  |agg ds=>simp [V.aggc] at h;subst h;obtain ⟨vs,rfl,hr⟩:=ZoZ hx.inv_d;exact ⟨vs,rfl,Rel2.dV hr,fun _=>ZhZ q _⟩
  |_=>simp [V.aggc] at h
 |_=>simp [V.aggc] at h
theorem Zpu (hT:TyOK P T) {t f off ft:Nat} (hf:Zcq T t f=some (off,ft)) {x:V} {xv:Value} (hx:VRel w ok lam H x xv) (h:ZfF T ft off x (eqK v0 u0)):
  Zbn P w ok lam H q v0 u0 (ZaJ q x) (Instr.field t xv f):=by
 unfold ZfF at h;cases hc:x.aggc with
 |none=>simp [hc,Zab] at h
 |some cs=>
  simp only [hc,Zab] at h;obtain ⟨⟨hs,hpos,hone⟩,hkn,rfl,rfl⟩:=h;obtain ⟨i,info,fs,z,fld,hTt,ht,hfl,rfl,rfl⟩:=Zhv hT hf;obtain ⟨vs,rfl,hr,hg⟩:=Zs8 (q:=q) hx hc;obtain ⟨it,info2,d2,z2,hT2,ht2,hsz⟩:=ZdV hT hpos;have hlen:=hr.1;have hdrop:=hr.drop fld.offset;have hst:=Zhm hT2;have hrun:∀c,(part fld.type ⟨vs⟩ fld.offset).run P w= .ok c w→(Instr.field t (.agg ⟨vs⟩) f).run P w= .ok c w:=by
   intro c hc;simp [Instr.field,ht.run_und,hfl,asAgg,hc]
  cases hk:it.kind.isRow with
  |true=>
   refine ⟨.agg ⟨(vs.drop fld.offset).take it.size⟩,hrun _ ?_,rfl,?_,?_⟩
   ·simp [part,ht2.run_isAgg,hk,ht2.run_sizeOf]
   ·simp only [ZgF,hst,hk,cond_true,hsz];exact VRel.mkAgg (hdrop.take _)
   ·intro hg';simp only [ZgF,hst,hk,cond_true];exact .agg fun v hv=>hg hg' v (List.mem_of_mem_drop (List.mem_of_mem_take hv))
  |false=>
   have h1:it.size=1:=by simpa [hst,hk,hsz] using hone
   have hlt:fld.offset<vs.length:=by omega
   have hget:vs[fld.offset]? =some vs[fld.offset]:=List.getElem?_eq_getElem hlt;obtain ⟨x,hx,hxv⟩:=hr.get' hget;refine ⟨vs[fld.offset],hrun _ (Zma ht2 hk hget),rfl,?_,?_⟩
   ·simp only [ZgF,hst,hk,cond_false];have:(cs.drop fld.offset)[0]? =some x:=by simpa using hx
    cases hd:cs.drop fld.offset with
    |nil=>simp [hd] at this
    |cons y l=>simp [hd] at this;subst this;exact hxv
   ·intro hg';simp only [ZgF,hst,hk,cond_false];cases hd:cs.drop fld.offset with
    |nil=>exact .dead
    |cons y l=>exact hg hg' y (List.mem_of_mem_drop (i:=fld.offset) (by rw [hd];exact List.mem_cons_self))
def splice {α:Type} (l:List α) (off:Nat) (vs:List α):List α:=l.take off++vs++l.drop (off+vs.length)
theorem Rel2.splice {α β:Type} {R:α→β→Prop} {l m:List α} {l' m':List β} (h:Rel2 R l l') (h2:Rel2 R m m') (off:Nat):Rel2 R (splice l off m) (splice l' off m'):=by
 unfold Go.Rx.splice;rw [h2.1];exact ((h.take off).append h2).append (h.drop _)
theorem Zpr:∀(vs:List Value) (k off:Nat) (cells:Array Value),off+k+vs.length≤cells.size→
  ((vs.zipIdx k).foldl (fun cs p=>cs.setIfInBounds (off+p.2) p.1) cells).toList=splice cells.toList (off+k) vs:=by
 intro vs;induction vs with
 |nil=>intro k off cells h;simp [splice]
 |cons v vs ih=>
  intro k off cells h;simp only [List.zipIdx_cons,List.foldl_cons];rw [ih (k+1) off _ (by simp at h ⊢;omega)];simp only [List.length_cons] at h;have hlt:off+k<cells.toList.length:=by simp;omega
  simp only [splice,Array.toList_setIfInBounds,List.length_cons];rw [show off+(k+1)=off+k+1 by omega,show off+k+(vs.length+1)=off+k+1+vs.length by omega];rw [List.take_succ_eq_append_getElem (by simpa using hlt)];simp only [List.getElem_set_self,List.take_set_of_le (Nat.le_refl _),List.drop_set_of_lt (show off+k<off+k+1+vs.length by omega),List.append_assoc,List.singleton_append]
theorem Zlt (v:Value) (off:Nat) (cells:Array Value) (h:off+v.cells.size≤cells.size):
  (v.cells.zipIdx.foldl (fun cs (c,j)=>cs.setIfInBounds (off+j) c) cells)=⟨splice cells.toList off v.cells.toList⟩:=by
 apply Array.ext';have:=Zpr v.cells.toList 0 off cells (by simpa using h);simp only [Nat.add_zero] at this;rw [←this,←Array.foldl_toList,Array.toList_zipIdx]
theorem ZmX (cs:List V) (off:Nat) (vs:List V):Zg3 cs off vs=splice cs off vs:=rfl
theorem ZsY {fs:List (Nat×Nat)} {n:Nat} {place:Nat→Option (Nat×Nat)} (hpl:∀(i:Nat) off t,fs[i]? =some (off,t)→Zeb T t=true→place i=some (off,ZaN T t)):
  ∀(ps:List (Nat×V)) (ps':List (Nat×Value)) (cs:List V) (vs:List Value) (cs':List V),Rel2 (VRel w ok lam H) cs vs→cs.length=n→
   Rel2 (fun a b=>a.1=b.1∧VRel w ok lam H a.2 b.2) ps ps'→Zgr T fs n cs ps=some cs'→
   ∃vs',Instr.fill place ⟨vs⟩ ps'=some ⟨vs'⟩∧Rel2 (VRel w ok lam H) cs' vs'∧((∀v∈cs,ZaJ q v)→(∀p∈ps,ZaJ q p.2)→∀v∈cs',ZaJ q v):=by
 intro ps;induction ps with
 |nil=>
  intro ps' cs vs cs' hr hn hp h;rw [hp.nil_left];simp [Zgr] at h;subst h;exact ⟨vs,rfl,hr,fun hg _=>hg⟩
 |cons p ps ih=>
  intro ps' cs vs cs' hr hn hp h;obtain ⟨i,x⟩:=p;obtain ⟨⟨i',xv⟩,rest,rfl,⟨hi,hx⟩,hrest⟩:=hp.uncons;obtain rfl:i=i':=hi;simp only [Zgr] at h;cases hf:fs[i]? with
  |none=>simp [hf] at h
  |some ot=>
   obtain ⟨off,t⟩:=ot;cases hc:x.cells with
   |none=>simp [hf,hc] at h
   |some xs=>
    simp only [hf,hc] at h;cases hcond:(xs.length==ZaN T t&&(off+xs.length).ble n&&Zeb T t) with
    |false=>simp [hcond] at h
    |true=>
     simp only [hcond,cond_true] at h;simp only [Bool.and_eq_true,beq_iff_eq,Nat.ble_eq] at hcond;obtain ⟨⟨h1,h2⟩,h3⟩:=hcond;have hxc:=V.cells_sound hx hc;have hxl:xv.cells.size=xs.length:=by have:=hxc.1;simp at this;omega
     have hvl:vs.length=n:=by rw [←hr.1];exact hn
     have hsz:off+xv.cells.size≤(⟨vs⟩:Array Value).size:=by simp;omega
     have hfold:=Zlt xv off ⟨vs⟩ hsz;have hlen':(Zg3 cs off xs).length=n:=by simp [Zg3];omega
     obtain ⟨vs',hf',hr',hg'⟩:=ih rest (Zg3 cs off xs) (splice vs off xv.cells.toList) cs' (hr.splice hxc off) hlen' hrest h;refine ⟨vs',?_,hr',fun hg1 hg2=>hg' (fun v hv=>?_) fun p hp=>hg2 p (List.mem_cons_of_mem _ hp)⟩
     ·simp only [Instr.fill,hpl i off t hf h3];rw [if_neg (by simp only [ne_eq,decide_not,Bool.or_eq_true,decide_eq_true_eq,not_or];simp;omega)];rw [hfold];exact hf'
     ·simp only [Zg3,List.mem_append] at hv;rcases hv with (hv|hv)|hv
      ·exact hg1 v (List.mem_of_mem_take hv)
      ·have hgx:=hg2 (i,x) List.mem_cons_self;cases x<;>simp only [V.cells] at hc<;>first
        |(simp at hc;done)
        |(simp at hc;subst hc;simp at hv;subst hv;exact hgx)
        |(simp at hc;subst hc;cases hgx with|agg hgx=>exact hgx v hv)
        |skip
       rename_i y;cases y<;>simp only [V.cells] at hc<;>first
        |(simp at hc;done)
        |(simp at hc;subst hc;simp at hv;obtain ⟨z,_,rfl⟩:=hv;exact .d _)
        |(simp at hc;subst hc;simp at hv;subst hv;exact hgx)
      ·exact hg1 v (List.mem_of_mem_drop hv)
theorem ZmD:∀ {zs:List Z} {vs:List Value},Rel2 Z.rel zs vs→Rel2 (VRel w ok lam H) (Zfh zs) vs:=by
 intro zs;induction zs with
 |nil=>intro vs h;rw [h.nil_left];exact Rel2.nil _
 |cons z zs ih=>
  intro vs h;obtain ⟨v,m,rfl,hv,hm⟩:=h.uncons;cases z with
  |d x=>exact Rel2.cons (.d (hv w ok)) (ih hm)
  |nils m'=>exact Rel2.cons (by have:v= .slice none 0 0:=hv;subst this;exact .nils) (ih hm)
theorem ZkN:∀(zs:List Z),∀v∈Zfh zs,ZaJ q v:=by
 intro zs;induction zs with
 |nil=>intro v hv;simp [Zfh] at hv
 |cons z zs ih=>
  intro v hv;cases z<;>simp [Zfh] at hv<;>rcases hv with rfl|hv
  ·exact .d _
  ·exact ih v hv
  ·exact .nils
  ·exact ih v hv
theorem Zib:∀(zs:List Z),(Zfh zs).length=zs.length:=by
 intro zs;induction zs with
 |nil=>rfl
 |cons z zs ih=>cases z<;>simp [Zfh,ih]
theorem Zr0 (hT:TyOK P T):∀(fs:List Go.Field),(∀f∈fs,Zeb T f.type=true)→fs.mapM (fun f=>(P.info? f.type).map fun i=>(f.offset,i.size))=some (fs.map fun f=>(f.offset,ZaN T f.type)):=by
 intro fs;induction fs with
 |nil=>intro _;rfl
 |cons f fs ih=>
  intro h;have hk:=h f List.mem_cons_self;unfold Zeb at hk;cases hi:T f.type with
  |none=>simp [hi] at hk
  |some i=>
   obtain ⟨info,d,z,ha⟩:=hT _ i hi;rw [List.mapM_cons,ih fun f hf=>h f (List.mem_cons_of_mem _ hf)];simp [ha.inf,ha.size,ZaN,hi]
theorem Zp1 (hT:TyOK P T) {t:Nat} {fs:List (Nat×Nat)} {n:Nat} {zs:List Z} (hst:ZeX (T t)=some (fs,n,zs)) (hzn:zs.length=n) (hall:(fs.all fun q=>Zeb T q.2)=true)
  {ps:List (Nat×V)} {ps':Array (Nat×Value)} (hp:Rel2 (fun a b=>a.1=b.1∧VRel w ok lam H a.2 b.2) ps ps'.toList) {cs:List V} (hb:Zgr T fs n (Zfh zs) ps=some cs) (h:v0= .agg cs∧u0=[]):
  Zbn P w ok lam H q v0 u0 (∀p∈ps,ZaJ q p.2) (Instr.build t ps'):=by
 obtain ⟨rfl,rfl⟩:=h;unfold ZeX at hst;split at hst
 ·rename_i n' b' fs' z' hTt;simp at hst;obtain ⟨rfl,rfl,rfl⟩:=hst;obtain ⟨info,d,z,ha⟩:=hT t _ hTt;obtain ⟨fl,rfl,hfl⟩:=Ze7 ha.kind;have hk:∀f∈fl.toList,Zeb T f.type=true:=fun f hf=>by
   have:=List.all_eq_true.1 hall (f.offset,f.type) (by rw [←hfl];exact List.mem_map.2 ⟨f,hf,rfl⟩);exact this
  have hmm:=Zr0 hT fl.toList hk;obtain ⟨vs,hfill,hr,hg⟩:=ZsY (w:=w) (ok:=ok) (lam:=lam) (H:=H) (q:=q) (fs:=fs') (n:=n') (place:=((fl.toList.map fun f=>(f.offset,ZaN T f.type)).toArray[·]?)) (fun i off t hi _=>by
    rw [←hfl,List.getElem?_map] at hi;cases hx:fl.toList[i]? with
    |none=>simp [hx] at hi
    |some f=>simp [hx] at hi;obtain ⟨rfl,rfl⟩:=hi;simp at hx;simp [hx]) ps ps'.toList _ z.cells.toList cs (ZmD ha.zrel) (by rw [Zib];exact hzn) hp hb
  refine ⟨.agg ⟨vs⟩,run_build w t ps' ⟨vs⟩ ?_,rfl,VRel.mkAgg hr,fun hgp=> .agg (hg (ZkN _) hgp)⟩;unfold Program.built;rw [ha.inf,ha.und];simp only [ha.zero,hmm];exact hfill
 ·simp at hst
theorem Zuu {x:V} {xv:Value} (hx:VRel w ok lam H x xv) (h:Zfs H x (eqK v0 u0)):
  v0=x∧u0=[]∧((∃A,xv= .pointer (some A))∨∃f a b,xv= .func (.func f) a b):=by
 unfold Zfs at h;split at h
 ·rename_i n off;cases hn:H n with
  |none=>simp [hn,ZjA] at h
  |some o=>
   simp only [hn,ZjA] at h;obtain ⟨rfl,rfl⟩:=h;cases hx with|ref _ hx=>
   obtain ⟨b,_,rfl⟩:=hx o hn;exact ⟨rfl,rfl,.inl ⟨_,rfl⟩⟩
 ·rename_i n i j;cases hn:H n with
  |none=>simp [hn,Zb2] at h
  |some o=>
   cases o with
   |box c=>simp [hn,Zb2] at h
   |arr m xs=>
    simp only [hn,Zb2] at h;obtain ⟨rfl,rfl⟩:=h;cases hx with|el _ hx=>
    obtain ⟨_,b,_,rfl⟩:=hx m xs hn;exact ⟨rfl,rfl,.inl ⟨_,rfl⟩⟩
 ·obtain ⟨rfl,rfl⟩:=h;cases hx.inv_d;exact ⟨rfl,rfl,.inl ⟨_,rfl⟩⟩
 ·obtain ⟨rfl,rfl⟩:=h;cases hx.inv_d;exact ⟨rfl,rfl,.inr ⟨_,_,_,rfl⟩⟩
 ·obtain ⟨rfl,rfl⟩:=h;cases hx;exact ⟨rfl,rfl,.inr ⟨_,_,_,rfl⟩⟩
 ·exact h.elim
end
end Go.Rx
namespace Go.Rx
open Go Go.RowKit
def updF (u:Upd) (H:Heap):Heap:=u.foldl (fun h p=>fun n=>if p.1=n then p.2 else h n) H
structure Chg (p:Nat→Prop) (w:World) (ok:Nat→Prop) (lam:Nat→Option Nat) (H:Heap) (w':World) (ok':Nat→Prop) (lam':Nat→Option Nat) (H':Heap):Prop where
 hw:∀b,ok b→w'.heap[b]? =w.heap[b]?
 hok:∀b,ok b→ok' b
 hl:∀n,p n→H' n≠none→lam' n=lam n
 hbox:∀n,p n→∀c',H' n=some (.box c')→∃c,H n=some (.box c)
 harr:∀n,p n→∀m xs',H' n=some (.arr m xs')→∃xs,H n=some (.arr m xs)∧xs.length=xs'.length
 hsz:∀n b cs T fr m xs',p n→H' n=some (.arr m xs')→lam n=some b→w.heap[b]? =some (.cells cs T fr)→∃cs' T' fr',w'.heap[b]? =some (.cells cs' T' fr')∧cs'.size=cs.size
section
variable {p:Nat→Prop} {w w':World} {ok ok':Nat→Prop} {lam lam':Nat→Option Nat} {H H':Heap}
theorem Chg.v (h:Chg p w ok lam H w' ok' lam' H') {x:V} {v:Value} (hx:VRel w ok lam H x v) (hg:ZaJ p x):VRel w' ok' lam' H' x v:=
 hx.mono hg h.hw h.hok h.hl h.hbox h.harr h.hsz
theorem Chg.of_old (hblk:∀b,b<w.heap.size→w'.heap[b]? =w.heap[b]?) (hlt:∀b,ok b→b<w.heap.size) (hok:∀b,ok b→ok' b)
  (hH:∀n,p n→H' n=none∨H' n=H n) (hl:∀n,p n→H' n≠none→lam' n=lam n):Chg p w ok lam H w' ok' lam' H' where
 hw b hb:=hblk b (hlt b hb)
 hok:=hok
 hl:=hl
 hbox n hp c' hc:=by
  rcases hH n hp with h|h
  ·rw [h] at hc;cases hc
  ·exact ⟨c',by rw [←h];exact hc⟩
 harr n hp m xs' hc:=by
  rcases hH n hp with h|h
  ·rw [h] at hc;cases hc
  ·exact ⟨xs',by rw [←h];exact hc,rfl⟩
 hsz n b cs T fr m xs' hp _ _ hb:=by
  have hlt:b<w.heap.size:=by
   rcases Nat.lt_or_ge b w.heap.size with h|h
   ·exact h
   ·simp [Array.getElem?_eq_none h] at hb
  exact ⟨cs,T,fr,by rw [hblk b hlt];exact hb,rfl⟩
theorem Zcn.chg (h:Chg p w ok lam H w' ok' lam' H') {n:Nat} {o:AObj} (hp:p n) (hne:H' n≠none) (hg:Zgg p o) (hb:∀b,lam n=some b→w'.heap[b]? =w.heap[b]?) (ho:Zcn w ok lam H n o):
  Zcn w' ok' lam' H' n o:=by
 cases o with
 |box cells=>
  obtain ⟨b,cs,T,h1,h2,h3,h4⟩:=ho;exact ⟨b,cs,T,(h.hl n hp hne).trans h1,(hb b h1).trans h2,h3,fun i v c hv hc=>h.v (h4 i v c hv hc) (hg v (List.mem_of_getElem? hv))⟩
 |arr m xs=>
  obtain ⟨h0,hm,hc⟩:=ho;refine ⟨h0,hm,?_⟩;rcases hc with ⟨h1,h2⟩|⟨b,cs,T,fr,h1,h2,h3,h4,h5⟩
  ·exact .inl ⟨(h.hl n hp hne).trans h1,h2⟩
  ·refine .inr ⟨b,cs,T,fr,(h.hl n hp hne).trans h1,(hb b h1).trans h2,⟨h3.1,fun i=>?_⟩,h4,fun i e j d hi hj=>?_⟩
   ·rw [World.frozen?_of_block (w:=w) (hb b h1)];exact h3.2 i
   ·obtain ⟨c,hc,hd⟩:=h5 i e j d hi hj;exact ⟨c,hc,hd.mono h.hw h.hok⟩
structure Ctx (okIn U:Nat→Prop) (w0:World) (p:Nat→Prop) (w:World) (ok:Nat→Prop) (lam:Nat→Option Nat) (H:Heap):Prop where
 hok:HOK w ok lam H
 good:∀n o,H n=some o→Zgg p o
 dom:∀n,H n≠none→p n
 okb:∀b,ok b→okIn b∨U b∨w0.heap.size≤b
 ownb:∀n b,H n≠none→lam n=some b→U b∨w0.heap.size≤b
 size:w0.heap.size≤w.heap.size
def Fr2 (U:Nat→Prop) (w0 w w':World):Prop:=Fr (fun b=>U b∨w0.heap.size≤b) w w'
structure Eff (okIn U:Nat→Prop) (w0:World) (p p':Nat→Prop) (w:World) (ok:Nat→Prop) (lam:Nat→Option Nat) (H:Heap) (v0:V) (H':Heap) (w':World) (cv:Value) (lam':Nat→Option Nat) (ok':Nat→Prop):Prop where
 ctx:Ctx okIn U w0 p' w' ok' lam' H'
 val:VRel w' ok' lam' H' v0 cv
 vgood:ZaJ p' v0
 fr:Fr2 U w0 w w'
 stab:∀x v,ZaJ p x→VRel w ok lam H x v→VRel w' ok' lam' H' x v
variable {okIn U:Nat→Prop} {w0:World} {p':Nat→Prop} {v0:V} {cv:Value}
theorem Eff.quiet (h:Ctx okIn U w0 p w ok lam H) (hpp:∀n,p n→p' n) (hv:VRel w ok lam H v0 cv) (hg:ZaJ p v0):Eff okIn U w0 p p' w ok lam H v0 H w cv lam ok where
 ctx:=⟨h.hok,fun n o ho=>(h.good n o ho).mono hpp,fun n hn=>hpp n (h.dom n hn),h.okb,h.ownb,h.size⟩
 val:=hv
 vgood:=hg.mono hpp
 fr:=Fr.refl _ _
 stab _ _ _ hx:=hx
theorem HOK.addNil (h:HOK w ok lam H) {n m:Nat} (hn:H n=none) (hp:¬p n) (hg:∀k o,H k=some o→Zgg p o) (hd:∀k,H k≠none→p k):
  HOK w ok (fun k=>if k=n then none else lam k) (fun k=>if n=k then some (.arr m []) else H k)∧
  Chg p w ok lam H w ok (fun k=>if k=n then none else lam k) (fun k=>if n=k then some (.arr m []) else H k):=by
 have hc:Chg p w ok lam H w ok (fun k=>if k=n then none else lam k) (fun k=>if n=k then some (.arr m []) else H k):=
  Chg.of_old (fun _ _=>rfl) h.oklt (fun _ h=>h) (fun k hk=> .inr (by rw [if_neg (fun (e:n=k)=>hp (e.symm▸hk))])) (fun k hk _=>by rw [if_neg (fun (e:k=n)=>hp (e▸hk))])
 refine ⟨⟨fun a b c ha hb h1 h2=>?_,fun a b ha h1=>?_,fun a b ha h1=>?_,h.oklt,fun a o ha=>?_⟩,hc⟩
 ·by_cases e1:a=n
  ·simp [e1] at h1
  ·by_cases e2:b=n
   ·simp [e2] at h2
   ·rw [if_neg e1] at h1;rw [if_neg e2] at h2;rw [if_neg (Ne.symm e1)] at ha;rw [if_neg (Ne.symm e2)] at hb;exact h.inj a b c ha hb h1 h2
 ·by_cases e1:a=n
  ·simp [e1] at h1
  ·rw [if_neg e1] at h1;rw [if_neg (Ne.symm e1)] at ha;exact h.lt a b ha h1
 ·by_cases e1:a=n
  ·simp [e1] at h1
  ·rw [if_neg e1] at h1;rw [if_neg (Ne.symm e1)] at ha;exact h.dis a b ha h1
 ·by_cases e1:a=n
  ·subst e1;simp at ha;subst ha;exact ⟨by simp,by simp,.inl ⟨by simp,rfl⟩⟩
  ·rw [if_neg (Ne.symm e1)] at ha;exact Zcn.chg hc (hd a (by rw [ha];simp)) (by rw [if_neg (Ne.symm e1),ha];simp) (hg a o ha) (fun _ _=>rfl) (h.obj a o ha)
theorem HOK.addNew (h:HOK w ok lam H) {n:Nat} {o:AObj} (hn:H n=none) (hp:¬p n) (hg:∀k o,H k=some o→Zgg p o) (hd:∀k,H k≠none→p k)
  (hblk:∀b,b<w.heap.size→w'.heap[b]? =w.heap[b]?) (hsz:w.heap.size<w'.heap.size)
  (ho:Chg p w ok lam H w' ok (fun k=>if k=n then some w.heap.size else lam k) (fun k=>if n=k then some o else H k)→
   Zcn w' ok (fun k=>if k=n then some w.heap.size else lam k) (fun k=>if n=k then some o else H k) n o):
  HOK w' ok (fun k=>if k=n then some w.heap.size else lam k) (fun k=>if n=k then some o else H k)∧
  Chg p w ok lam H w' ok (fun k=>if k=n then some w.heap.size else lam k) (fun k=>if n=k then some o else H k):=by
 have hc:Chg p w ok lam H w' ok (fun k=>if k=n then some w.heap.size else lam k) (fun k=>if n=k then some o else H k):=
  Chg.of_old hblk h.oklt (fun _ h=>h) (fun k hk=> .inr (by rw [if_neg (fun (e:n=k)=>hp (e.symm▸hk))])) (fun k hk _=>by rw [if_neg (fun (e:k=n)=>hp (e▸hk))])
 refine ⟨⟨fun a b c ha hb h1 h2=>?_,fun a b ha h1=>?_,fun a b ha h1=>?_,fun b hb=>Nat.lt_trans (h.oklt b hb) hsz,fun a o' ha=>?_⟩,hc⟩
 ·by_cases e1:a=n
  ·by_cases e2:b=n
   ·rw [e1,e2]
   ·rw [if_pos e1] at h1;rw [if_neg e2] at h2;rw [if_neg (Ne.symm e2)] at hb;have:=h.lt b c hb h2;simp at h1;omega
  ·by_cases e2:b=n
   ·rw [if_pos e2] at h2;rw [if_neg e1] at h1;rw [if_neg (Ne.symm e1)] at ha;have:=h.lt a c ha h1;simp at h2;omega
   ·rw [if_neg e1] at h1;rw [if_neg e2] at h2;rw [if_neg (Ne.symm e1)] at ha;rw [if_neg (Ne.symm e2)] at hb;exact h.inj a b c ha hb h1 h2
 ·by_cases e1:a=n
  ·rw [if_pos e1] at h1;simp at h1;omega
  ·rw [if_neg e1] at h1;rw [if_neg (Ne.symm e1)] at ha;exact Nat.lt_trans (h.lt a b ha h1) hsz
 ·by_cases e1:a=n
  ·rw [if_pos e1] at h1;intro hb;have:=h.oklt b hb;simp at h1;omega
  ·rw [if_neg e1] at h1;rw [if_neg (Ne.symm e1)] at ha;exact h.dis a b ha h1
 ·by_cases e1:a=n
  ·subst e1;simp at ha;subst ha;exact ho hc
  ·rw [if_neg (Ne.symm e1)] at ha;exact Zcn.chg hc (hd a (by rw [ha];simp)) (by rw [if_neg (Ne.symm e1),ha];simp) (hg a o' ha) (fun b hb=>hblk b (h.lt a b (by rw [ha];simp) hb)) (h.obj a o' ha)
def remF (ls:List Nat) (H:Heap):Heap:=fun n=>if n∈ls then none else H n
theorem HOK.rem (h:HOK w ok lam H) (ls:List Nat) (hg:∀k o,H k=some o→Zgg p o) (hd:∀k,H k≠none→p k):
  HOK w (okB ok lam H ls) lam (remF ls H)∧Chg p w ok lam H w (okB ok lam H ls) lam (remF ls H):=by
 have hc:Chg p w ok lam H w (okB ok lam H ls) lam (remF ls H):=
  Chg.of_old (fun _ _=>rfl) h.oklt (fun _ h=> .inl h) (fun k _=>by unfold remF;split<;>simp) (fun _ _ _=>rfl)
 have hne:∀a,remF ls H a≠none→a∉ls∧H a≠none:=fun a ha=>by
  unfold remF at ha;split at ha
  ·simp at ha
  ·exact ⟨‹_›,ha⟩
 refine ⟨⟨fun a b c ha hb h1 h2=>h.inj a b c (hne a ha).2 (hne b hb).2 h1 h2,fun a b ha h1=>h.lt a b (hne a ha).2 h1,fun a b ha h1 hb=>?_,fun b hb=>?_,fun a o ha=>?_⟩,hc⟩
 ·rcases hb with hb|⟨k,hk,hk1,hk2⟩
  ·exact h.dis a b (hne a ha).2 h1 hb
  ·have:=h.inj a k b (hne a ha).2 hk1 h1 hk2;exact (hne a ha).1 (this▸hk)
 ·rcases hb with hb|⟨k,hk,hk1,hk2⟩
  ·exact h.oklt b hb
  ·exact h.lt k b hk1 hk2
 ·have hna:remF ls H a≠none:=by rw [ha];simp
  have ha':H a=some o:=by have h2:=(hne a hna).1;unfold remF at ha;rw [if_neg h2] at ha;exact ha
  exact Zcn.chg hc (hd a (hne a hna).2) hna (hg a o ha') (fun _ _=>rfl) (h.obj a o ha')
end
end Go.Rx
namespace Go.Rx
open Go Go.RowKit
section
variable {p:Nat→Prop} {w w':World} {ok ok':Nat→Prop} {lam lam':Nat→Option Nat} {H H':Heap}
theorem ZcV (u u':Upd) (H:Heap):updF (u++u') H=updF u' (updF u H):=by simp [updF,List.foldl_append]
theorem ZeA (x:Nat×Option AObj) (u:Upd) (H:Heap):updF (x::u) H=updF u (fun n=>if x.1=n then x.2 else H n):=rfl
theorem ZeU (n:Nat) (o:Option AObj) (H:Heap):updF [(n,o)] H=fun k=>if n=k then o else H k:=rfl
theorem ZiQ (ls:List Nat) (H:Heap):updF (ls.map (·,none)) H=remF ls H:=by
 induction ls generalizing H with
 |nil=>funext n;simp [updF,remF]
 |cons k ls ih=>
  rw [List.map_cons,ZeA,ih];funext n;unfold remF;by_cases h1:n∈ls
  ·simp [h1]
  ·by_cases h2:k=n
   ·simp [h2]
   ·simp [h1,h2,Ne.symm h2]
theorem ZcF (b:Nat) (T:TypeId) (fr:Nat×Nat):∀(vs:List Value) (o:Nat) (w:World) (cs:List Value),w.heap[b]? =some (.cells ⟨cs⟩ T fr)→o+vs.length≤cs.length→
  (w.setCells b o vs).heap[b]? =some (.cells ⟨splice cs o vs⟩ T fr):=by
 intro vs;induction vs with
 |nil=>intro o w cs h hl;simp only [World.setCells,splice];simp [h]
 |cons v vs ih=>
  intro o w cs h hl;simp only [World.setCells];have h1:(w.setCell ⟨b,o,none⟩ v).heap[b]? =some (.cells ⟨cs.set o v⟩ T fr):=by
   simp only [World.setCell,Array.getElem?_modify,if_true,h,Option.map_some];simp
  rw [ih (o+1) _ (cs.set o v) h1 (by simp at hl ⊢;omega)];congr 3;have hlt:o<cs.length:=by simp at hl;omega
  simp only [splice,List.length_cons];rw [show o+(vs.length+1)=o+1+vs.length by omega,List.take_succ_eq_append_getElem (by simpa using hlt)];simp only [List.getElem_set_self,List.take_set_of_le (Nat.le_refl _),List.drop_set_of_lt (show o<o+1+vs.length by omega),List.append_assoc,List.singleton_append]
theorem Zbj (b:Nat):∀(vs:List Value) (o:Nat) (w:World) (k:Nat),k≠b→(w.setCells b o vs).heap[k]? =w.heap[k]? :=by
 intro vs;induction vs with
 |nil=>intro o w k _;rfl
 |cons v vs ih=>
  intro o w k hk;simp only [World.setCells];rw [ih (o+1) _ k hk];exact heap_setCell_other w ⟨b,o,none⟩ k v hk
theorem ZdA (b:Nat):∀(vs:List Value) (o:Nat) (w:World),(w.setCells b o vs).heap.size=w.heap.size∧(w.setCells b o vs).os=w.os∧(w.setCells b o vs).tape=w.tape∧(w.setCells b o vs).output=w.output:=by
 intro vs;induction vs with
 |nil=>intro o w;exact ⟨rfl,rfl,rfl,rfl⟩
 |cons v vs ih=>intro o w;simp only [World.setCells];obtain ⟨h1,h2,h3,h4⟩:=ih (o+1) (w.setCell ⟨b,o,none⟩ v);exact ⟨h1.trans (by simp),h2,h3,h4⟩
theorem Zeq {w:World} {b o:Nat} {T:TypeId} {fr:Nat×Nat} {vs cs:List Value} (hb:w.heap[b]? =some (.cells ⟨cs⟩ T fr)) (hl:o+vs.length≤cs.length):Zos w (w.setCells b o vs):=
 ZmV (ZcF b T fr vs o w cs hb hl) (fun cs' T' fr' h=>by rw [hb] at h;cases h;simp [splice];omega) fun k _ hk=>Zbj b vs o w k hk
theorem HOK.upd (h:HOK w ok lam H) {n b:Nat} {o o':AObj} (hn:H n=some o) (hl:lam n=some b) (hg:∀k o,H k=some o→Zgg p o) (hd:∀k,H k≠none→p k)
  (hother:∀k,k≠b→w'.heap[k]? =w.heap[k]?) (hsz:w'.heap.size=w.heap.size)
  (hblk:∀cs T fr,w.heap[b]? =some (.cells cs T fr)→∃cs' T' fr',w'.heap[b]? =some (.cells cs' T' fr')∧cs'.size=cs.size)
  (hkind:(∃c c',o= .box c∧o'= .box c')∨(∃m xs xs',o= .arr m xs∧o'= .arr m xs'∧xs.length=xs'.length))
  (ho:Chg p w ok lam H w' ok lam (fun k=>if n=k then some o' else H k)→Zcn w' ok lam (fun k=>if n=k then some o' else H k) n o'):
  HOK w' ok lam (fun k=>if n=k then some o' else H k)∧Chg p w ok lam H w' ok lam (fun k=>if n=k then some o' else H k):=by
 have hnb:∀c,ok c→c≠b:=fun c hc e=>h.dis n b (by rw [hn];simp) hl (e▸hc)
 have hne:∀a,(if n=a then some o' else H a)≠none→H a≠none:=fun a ha=>by
  by_cases e:n=a
  ·subst e;rw [hn];simp
  ·rw [if_neg e] at ha;exact ha
 have hc:Chg p w ok lam H w' ok lam (fun k=>if n=k then some o' else H k):=by
  refine ⟨fun c hc=>hother c (hnb c hc),fun _ h=>h,fun _ _ _=>rfl,fun a _ c' hc=>?_,fun a _ m xs' hc=>?_,fun a c cs T fr _ _ _ ha h1 h2=>?_⟩
  ·by_cases e:n=a
   ·subst e;simp at hc;rcases hkind with ⟨c,c2,rfl,rfl⟩|⟨m,xs,xs',rfl,rfl,_⟩
    ·exact ⟨c,hn⟩
    ·cases hc
   ·simp only [if_neg e] at hc;exact ⟨c',hc⟩
  ·by_cases e:n=a
   ·subst e;simp at hc;rcases hkind with ⟨c,c2,rfl,rfl⟩|⟨m2,xs,xs2,rfl,rfl,hlen⟩
    ·cases hc
    ·cases hc;exact ⟨xs,hn,hlen⟩
   ·simp only [if_neg e] at hc;exact ⟨xs',hc,rfl⟩
  ·by_cases e:c=b
   ·subst e;exact hblk cs T fr h2
   ·exact ⟨cs,T,fr,by rw [hother c e];exact h2,rfl⟩
 refine ⟨⟨fun a c d ha hc' h1 h2=>h.inj a c d (hne a ha) (hne c hc') h1 h2,fun a c ha h1=>hsz▸h.lt a c (hne a ha) h1,fun a c ha h1=>h.dis a c (hne a ha) h1,fun c hc=>hsz▸h.oklt c hc,fun a x ha=>?_⟩,hc⟩;by_cases e:n=a
 ·subst e;simp at ha;subst ha;exact ho hc
 ·have ha':H a=some x:=by rw [if_neg e] at ha;exact ha
  exact Zcn.chg hc (hd a (by rw [ha'];simp)) (by rw [if_neg e,ha'];simp) (hg a x ha') (fun c hc=>hother c (fun e2=>e (h.inj n a b (by rw [hn];simp) (by rw [ha'];simp) hl (e2▸hc)))) (h.obj a x ha')
theorem ZjG {tb:Nat}:∀(vs:List V) (vals:List Value) (zs:List Z) (k:Nat) (p:Nat→Prop) (lam:Nat→Option Nat) (H:Heap),
  HOK w ok lam H→(∀k o,H k=some o→Zgg p o)→(∀k,H k≠none→p k)→(∀j,k≤j→j<k+vs.length→¬p (tb+1+j))→
  Rel2 (VRel w ok lam H) vs vals→(∀v∈vs,ZaJ p v)→
  ∃lam',HOK w ok lam' (updF (ZbK tb k vs zs).2 H)∧Chg p w ok lam H w ok lam' (updF (ZbK tb k vs zs).2 H)∧
   Rel2 (VRel w ok lam' (updF (ZbK tb k vs zs).2 H)) (ZbK tb k vs zs).1 vals∧
   (∀v∈(ZbK tb k vs zs).1,ZaJ (fun n=>p n∨tb+1+k≤n∧n<tb+1+k+vs.length) v)∧
   (∀n o,updF (ZbK tb k vs zs).2 H n=some o→Zgg (fun n=>p n∨tb+1+k≤n∧n<tb+1+k+vs.length) o)∧
   (∀n,updF (ZbK tb k vs zs).2 H n≠none→p n∨tb+1+k≤n∧n<tb+1+k+vs.length)∧
   (∀n b,updF (ZbK tb k vs zs).2 H n≠none→lam' n=some b→H n≠none∧lam n=some b)∧
   (∀n,p n→updF (ZbK tb k vs zs).2 H n=H n∧lam' n=lam n):=by
 intro vs;induction vs with
 |nil=>
  intro vals zs k p lam H h hg hd hf hr hv;rw [hr.nil_left];exact ⟨lam,h,Chg.of_old (fun _ _=>rfl) h.oklt (fun _ h=>h) (fun _ _=> .inr rfl) (fun _ _ _=>rfl),Rel2.nil _,by simp [ZbK],
   fun n o ho=>(hg n o ho).mono fun _ h=> .inl h,fun n hn=> .inl (hd n hn),fun n b h1 h2=>⟨h1,h2⟩,fun n _=>⟨rfl,rfl⟩⟩
 |cons v vs ih=>
  intro vals zs k p lam H h hg hd hf hr hv;obtain ⟨x,rest,rfl,hx,hrest⟩:=hr.uncons;have plain:(ZbK tb k (v::vs) zs)=(v::(ZbK tb (k+1) vs (zs.drop 1)).1,(ZbK tb (k+1) vs (zs.drop 1)).2)∨
    (v= .nils∧∃m,(ZbK tb k (v::vs) zs)=(.own (tb+1+k) 0 0::(ZbK tb (k+1) vs (zs.drop 1)).1,(tb+1+k,some (.arr m []))::(ZbK tb (k+1) vs (zs.drop 1)).2)):=by
   cases v with
   |nils=>cases zs with
    |nil=>exact .inl rfl
    |cons z zs=>cases z with
     |d x=>exact .inl rfl
     |nils m=>exact .inr ⟨rfl,m,rfl⟩
   |_=>exact .inl rfl
  rcases plain with e|⟨rfl,m,e⟩
  ·rw [e];obtain ⟨lam',h1,h2,h3,h4,h5,h6,h7,h8⟩:=ih rest (zs.drop 1) (k+1) p lam H h hg hd (fun j hj hj2=>hf j (by omega) (by simp;omega)) hrest (fun v hv'=>hv v (List.mem_cons_of_mem _ hv'));have hm:∀n,(p n∨tb+1+(k+1)≤n∧n<tb+1+(k+1)+vs.length)→(p n∨tb+1+k≤n∧n<tb+1+k+(v::vs).length):=fun n hn=>by
    rcases hn with hn|hn
    ·exact .inl hn
    ·exact .inr ⟨by omega,by simp;omega⟩
   refine ⟨lam',h1,h2,Rel2.cons (h2.v hx (hv v List.mem_cons_self)) h3,fun u hu=>?_,fun n o ho=>(h5 n o ho).mono hm,fun n hn=>hm n (h6 n hn),h7,h8⟩;rcases List.mem_cons.1 hu with rfl|hu
   ·exact (hv u List.mem_cons_self).mono fun _ h=> .inl h
   ·exact (h4 u hu).mono hm
  ·rw [e];have hfr:¬p (tb+1+k):=hf k (Nat.le_refl _) (by simp);have hnone:H (tb+1+k)=none:=by
    cases hh:H (tb+1+k) with
    |none=>rfl
    |some o=>exact absurd (hd _ (by rw [hh];simp)) hfr
   obtain ⟨a1,a2⟩:=h.addNil (p:=p) (m:=m) hnone hfr hg hd;obtain ⟨lam',h1,h2,h3,h4,h5,h6,h7,h8⟩:=ih rest (zs.drop 1) (k+1) (fun n=>p n∨n=tb+1+k) _ _ a1
    (fun n o ho=>by
     by_cases e:tb+1+k=n
     ·subst e;simp at ho;subst ho;trivial
     ·rw [if_neg e] at ho;exact (hg n o ho).mono fun _ h=> .inl h)
    (fun n hn=>by
     by_cases e:tb+1+k=n
     ·exact .inr e.symm
     ·rw [if_neg e] at hn;exact .inl (hd n hn))
    (fun j hj hj2=>by
     have:=hf j (by omega) (by simp;omega);intro hc;rcases hc with hc|hc
     ·exact this hc
     ·omega)
    (hrest.mono fun v x hv' hr=>a2.v hr (hv v (List.mem_cons_of_mem _ hv')))
    (fun v hv'=>(hv v (List.mem_cons_of_mem _ hv')).mono fun _ h=> .inl h)
   have hm:∀n,((p n∨n=tb+1+k)∨tb+1+(k+1)≤n∧n<tb+1+(k+1)+vs.length)→(p n∨tb+1+k≤n∧n<tb+1+k+(V.nils::vs).length):=fun n hn=>by
    rcases hn with (hn|rfl)|hn
    ·exact .inl hn
    ·exact .inr ⟨Nat.le_refl _,by simp⟩
    ·exact .inr ⟨by omega,by simp;omega⟩
   cases hx;have hcn:updF (ZbK tb (k+1) vs (zs.drop 1)).2 (fun n=>if tb+1+k=n then some (.arr m []) else H n) (tb+1+k)=some (.arr m [])∧lam' (tb+1+k)=none:=by
    have:=h8 (tb+1+k) (.inr rfl);simpa using this
   refine ⟨lam',h1,?_,Rel2.cons ?_ h3,fun u hu=>?_,fun n o ho=>(h5 n o ho).mono hm,fun n hn=>hm n (h6 n hn),fun n b hn hb=>?_,fun n hn=>?_⟩
   ·refine ⟨fun _ _=>rfl,fun _ h=>h,fun n hn hne=>?_,fun n hn c' hc=>?_,fun n hn m' xs' hc=>?_,fun n b cs T fr _ _ hn hne hb hh=>⟨cs,T,fr,hh,rfl⟩⟩
    ·rw [(h8 n (.inl hn)).2,if_neg (fun (e:n=tb+1+k)=>hfr (e▸hn))]
    ·rw [ZeA,(h8 n (.inl hn)).1,if_neg (fun (e:tb+1+k=n)=>hfr (e.symm▸hn))] at hc;exact ⟨c',hc⟩
    ·rw [ZeA,(h8 n (.inl hn)).1,if_neg (fun (e:tb+1+k=n)=>hfr (e.symm▸hn))] at hc;exact ⟨xs',hc,rfl⟩
   ·refine .own ⟨_,_,_,rfl⟩ fun m' xs' hc=>?_;rw [ZeA,hcn.1] at hc;cases hc;exact ⟨by simp,.inl ⟨hcn.2,rfl,rfl⟩⟩
   ·rcases List.mem_cons.1 hu with rfl|hu
    ·exact .own (.inr ⟨Nat.le_refl _,by simp⟩)
    ·exact (h4 u hu).mono hm
   ·have:=h7 n b hn hb;by_cases e:tb+1+k=n
    ·subst e;simp at this
    ·simp only [if_neg e,if_neg (Ne.symm e)] at this;exact this
   ·rw [ZeA,(h8 n (.inl hn)).1,(h8 n (.inl hn)).2,if_neg (fun (e:tb+1+k=n)=>hfr (e.symm▸hn)),if_neg (fun (e:n=tb+1+k)=>hfr (e▸hn))];exact ⟨rfl,rfl⟩
end
end Go.Rx
namespace Go.Rx
open Go Go.RowKit
section
variable {P:Program} {T:Tys} {okIn U:Nat→Prop} {w0:World} {p:Nat→Prop} {w w':World} {ok ok':Nat→Prop} {lam lam':Nat→Option Nat} {H H':Heap} {v0:V} {u0:Upd} {cv:Value}
def pX (p:Nat→Prop) (tb n:Nat):Prop:=p n∨tb≤n∧n<tb+1000
theorem Znb {p:Nat→Prop} {tb:Nat}:pX p tb tb:= .inr ⟨Nat.le_refl _,by omega⟩
def Zey (p:Nat→Prop) (tb:Nat):Prop:=∀n,tb≤n→n<tb+1000→¬p n
theorem Ctx.none (h:Ctx okIn U w0 p w ok lam H) {tb n:Nat} (hf:Zey p tb) (h1:tb≤n) (h2:n<tb+1000):H n=none:=by
 cases hh:H n with
 |none=>rfl
 |some o=>exact absurd (h.dom n (by rw [hh];simp)) (hf n h1 h2)
theorem ZdL (h:Ctx okIn U w0 p w ok lam H) {tb:Nat} (hf:Zey p tb) (ls:List Nat) {m len cap:Nat} {xs:List (List D)} {cs:Array Value} {Te:TypeId} {fr:Nat×Nat}
  (hblk:∀b,b<w.heap.size→w'.heap[b]? =w.heap[b]?) (hsz:w.heap.size<w'.heap.size) (hmeta:w'.os=w.os∧w'.tape=w.tape∧w'.output=w.output)
  (hnew:w'.heap[w.heap.size]? =some (.cells cs Te fr)) (hfz:cs.size≤LEN*m∧∀i,w'.frozen? ⟨w.heap.size,i,none⟩=false)
  (hm:∀e∈xs,e.length=m) (hmax:xs.length≤MAX) (hlen:len≤xs.length) (hcap:len≤cap) (hcs:cap*m≤cs.size) (hxs:xs.length*m≤cs.size)
  (hel:∀(i:Nat) e (j:Nat) d,xs[i]? =some e→e[j]? =some d→∃c,cs[i*m+j]? =some c∧DRel w (okB ok lam H ls) d c):
  ∃lam' ok',Eff okIn U w0 p (pX p tb) w ok lam H (.own tb 0 len) (updF (ls.map (·,none)++[(tb,some (.arr m xs))]) H) w' (.slice (some ⟨w.heap.size,0,none⟩) len cap) lam' ok':=by
 rw [ZcV,ZiQ,ZeU];obtain ⟨r1,r2⟩:=h.hok.rem (p:=p) ls h.good h.dom;have hg1:∀k o,remF ls H k=some o→Zgg p o:=fun k o ho=>by
  unfold remF at ho;split at ho
  ·cases ho
  ·exact h.good k o ho
 have hd1:∀k,remF ls H k≠none→p k:=fun k hk=>by
  unfold remF at hk;split at hk
  ·simp at hk
  ·exact h.dom k hk
 have hfr:¬p tb:=hf tb (Nat.le_refl _) (by omega);have hn:remF ls H tb=none:=by
  cases hh:remF ls H tb with
  |none=>rfl
  |some o=>exact absurd (hd1 tb (by rw [hh];simp)) hfr
 obtain ⟨a1,a2⟩:=r1.addNew (p:=p) (w':=w') (o:= .arr m xs) hn hfr hg1 hd1 hblk hsz (fun hc=>by
  refine ⟨hm,hmax,.inr ⟨w.heap.size,cs,Te,fr,by simp,hnew,hfz,hxs,fun i e j d hi hj=>?_⟩⟩;obtain ⟨c,h1,h2⟩:=hel i e j d hi hj;exact ⟨c,h1,h2.mono hc.hw hc.hok⟩)
 have hchg:∀x v,ZaJ p x→VRel w ok lam H x v→VRel w' (okB ok lam H ls) (fun k=>if k=tb then some w.heap.size else lam k) (fun k=>if tb=k then some (.arr m xs) else remF ls H k) x v:=
  fun x v hg hv=>a2.v (r2.v hv hg) hg
 refine ⟨_,_,⟨⟨a1,fun n o ho=>?_,fun n hn=>?_,fun b hb=>?_,fun n b hn hb=>?_,Nat.le_trans h.size (Nat.le_of_lt hsz)⟩,?_,.own Znb,?_,hchg⟩⟩
 ·by_cases e:tb=n
  ·rw [if_pos e] at ho;cases ho;trivial
  ·rw [if_neg e] at ho;exact (hg1 n o ho).mono fun _ h=> .inl h
 ·by_cases e:tb=n
  ·subst e;exact Znb
  ·rw [if_neg e] at hn;exact .inl (hd1 n hn)
 ·rcases hb with hb|⟨k,hk,hk1,hk2⟩
  ·exact h.okb b hb
  ·exact .inr (h.ownb k b hk1 hk2)
 ·by_cases e:tb=n
  ·subst e;simp at hb;right;rw [←hb];exact h.size
  ·rw [if_neg e] at hn;rw [if_neg (Ne.symm e)] at hb;have:H n≠none:=by unfold remF at hn;split at hn;simp at hn;exact hn
   exact h.ownb n b this hb
 ·refine .own ⟨_,_,_,rfl⟩ fun m' xs' hc=>?_;simp at hc;obtain ⟨rfl,rfl⟩:=hc;exact ⟨by omega,.inr ⟨w.heap.size,0,cap,cs,Te,fr,by simp,rfl,hcap,.inr (by simp),hnew,by simpa using hcs⟩⟩
 ·exact ⟨hmeta.1,hmeta.2.1,hmeta.2.2,Nat.le_of_lt hsz,fun k hk _=>hblk k hk,ZhN hblk⟩
theorem Zk6 (h:Ctx okIn U w0 p w ok lam H) {tb:Nat} (hf:Zey p tb) {vs:List V} {vals:List Value} {zs:List Z} {Te:TypeId} (hr:Rel2 (VRel w ok lam H) vs vals) (hg:∀v∈vs,ZaJ p v) (hlen:vs.length≤900):
  ∃lam' ok',Eff okIn U w0 p (pX p tb) w ok lam H (.ref tb 0) (updF ((ZbK tb 0 vs zs).2++[(tb,some (.box (ZbK tb 0 vs zs).1))]) H) (w.alloc (.cells ⟨vals⟩ Te)) (.pointer (some ⟨w.heap.size,0,none⟩)) lam' ok':=by
 rw [ZcV,ZeU];have hfr:¬p tb:=hf tb (Nat.le_refl _) (by omega);obtain ⟨lam1,h1,h2,h3,h4,h5,h6,h7,h8⟩:=ZjG (tb:=tb) vs vals zs 0 p lam H h.hok h.good h.dom (fun j _ hj=>hf _ (by omega) (by omega)) hr hg;have hq:∀n,(p n∨tb+1+0≤n∧n<tb+1+0+vs.length)→pX p tb n:=fun n hn=>by
  rcases hn with hn|hn
  ·exact .inl hn
  ·exact .inr ⟨by omega,by omega⟩
 have hne:¬(p tb∨tb+1+0≤tb∧tb<tb+1+0+vs.length):=fun hn=>by
  rcases hn with hn|hn
  ·exact hfr hn
  ·omega
 have hn:updF (ZbK tb 0 vs zs).2 H tb=none:=by
  cases hh:updF (ZbK tb 0 vs zs).2 H tb with
  |none=>rfl
  |some o=>exact absurd (h6 tb (by rw [hh];simp)) hne
 have hblk:∀b,b<w.heap.size→(w.alloc (.cells ⟨vals⟩ Te)).heap[b]? =w.heap[b]? :=fun b hb=>heap_alloc_old w _ b hb
 have hnew:(w.alloc (.cells ⟨vals⟩ Te)).heap[w.heap.size]? =some (.cells ⟨vals⟩ Te (0,0)):=heap_alloc_new w _;obtain ⟨a1,a2⟩:=h1.addNew (p:=fun n=>p n∨tb+1+0≤n∧n<tb+1+0+vs.length) (w':=w.alloc (.cells ⟨vals⟩ Te)) (o:= .box (ZbK tb 0 vs zs).1) hn hne h5 h6 hblk (by simp) (fun hc=>
  ⟨w.heap.size,⟨vals⟩,Te,by simp,hnew,by simpa using h3.1,fun i v c hv hcc=>hc.v (h3.2 i v c hv (by simpa using hcc)) (h4 v (List.mem_of_getElem? hv))⟩)
 refine ⟨_,_,⟨⟨a1,fun n o ho=>?_,fun n hn=>?_,h.okb,fun n b hn hb=>?_,Nat.le_trans h.size (by simp)⟩,?_,.ref Znb,?_,fun x v hgx hv=>?_⟩⟩
 ·by_cases e:tb=n
  ·rw [if_pos e] at ho;cases ho;exact fun v hv=>(h4 v hv).mono hq
  ·rw [if_neg e] at ho;exact (h5 n o ho).mono hq
 ·by_cases e:tb=n
  ·subst e;exact Znb
  ·rw [if_neg e] at hn;exact hq n (h6 n hn)
 ·by_cases e:tb=n
  ·subst e;simp at hb;right;rw [←hb];exact h.size
  ·rw [if_neg e] at hn;rw [if_neg (Ne.symm e)] at hb;obtain ⟨k1,k2⟩:=h7 n b hn hb;exact h.ownb n b k1 k2
 ·exact .ref ⟨_,rfl⟩ fun o ho=>⟨w.heap.size,by simp,rfl⟩
 ·exact ⟨rfl,rfl,rfl,by simp,fun k hk _=>hblk k hk,ZhN hblk⟩
 ·exact a2.v (h2.v hv hgx) (hgx.mono fun _ h=> .inl h)
theorem ZjF (h:Ctx okIn U w0 p w ok lam H) {tb m:Nat} (hf:Zey p tb):
  ∃lam' ok',Eff okIn U w0 p (pX p tb) w ok lam H (.own tb 0 0) (updF [(tb,some (.arr m []))] H) w (.slice none 0 0) lam' ok':=by
 rw [ZeU];have hfr:¬p tb:=hf tb (Nat.le_refl _) (by omega);obtain ⟨a1,a2⟩:=h.hok.addNil (p:=p) (m:=m) (h.none hf (Nat.le_refl _) (by omega)) hfr h.good h.dom;refine ⟨_,_,⟨⟨a1,fun n o ho=>?_,fun n hn=>?_,h.okb,fun n b hn hb=>?_,h.size⟩,?_,.own Znb,Fr.refl _ _,fun x v hg hv=>a2.v hv hg⟩⟩
 ·by_cases e:tb=n
  ·rw [if_pos e] at ho;cases ho;trivial
  ·rw [if_neg e] at ho;exact (h.good n o ho).mono fun _ h=> .inl h
 ·by_cases e:tb=n
  ·subst e;exact Znb
  ·rw [if_neg e] at hn;exact .inl (h.dom n hn)
 ·by_cases e:tb=n
  ·subst e;simp at hb
  ·rw [if_neg e] at hn;rw [if_neg (Ne.symm e)] at hb;exact h.ownb n b hn hb
 ·refine .own ⟨_,_,_,rfl⟩ fun m' xs' hc=>?_;simp at hc;obtain ⟨rfl,rfl⟩:=hc;exact ⟨by simp,.inl ⟨by simp,rfl,rfl⟩⟩
theorem ZkG (hk:HOK w ok lam H):∀(ps:List (Nat×V)) (ps':List (Nat×Value)) (k:Nat) (es:List (List D)) (ls:List Nat),
  Rel2 (fun a b=>a.1=b.1∧VRel w ok lam H a.2 b.2) ps ps'→ZbM H k ps=some (es,ls)→
  Rel2 (fun e b=>Rel2 (DRel w (okB ok lam H ls)) e b.2.cells.toList) es ps'∧∀(i:Nat) b,ps'[i]? =some b→b.1=k+i:=by
 intro ps;induction ps with
 |nil=>
  intro ps' k es ls hr h;rw [hr.nil_left];simp [ZbM] at h;rw [h.1];exact ⟨Rel2.nil _,by simp⟩
 |cons a ps ih=>
  intro ps' k es ls hr h;obtain ⟨i,x⟩:=a;obtain ⟨⟨i',xv⟩,rest,rfl,⟨hi,hx⟩,hrest⟩:=hr.uncons;obtain rfl:i=i':=hi;simp only [ZbM] at h;cases hp:Zfx H (i==k) x.cells with
  |none=>simp [hp] at h
  |some d1=>
   obtain ⟨ds,l1⟩:=d1;cases hq:ZbM H (k+1) ps with
   |none=>simp [hp,hq] at h
   |some d2=>
    obtain ⟨es2,l2⟩:=d2;simp [hp,hq] at h;obtain ⟨rfl,rfl⟩:=h;unfold Zfx at hp;split at hp
    ·rename_i b vs hik hc;have hik':i=k:=by simpa using hik
     subst hik';obtain ⟨g1,g2⟩:=ih rest (i+1) es2 l2 hrest hq;refine ⟨Rel2.cons ((ZhA hk (V.cells_sound hx hc) hp).mono fun _ _ _ hd=>hd.mono (fun _ _=>rfl) fun b hb=>ZcI hb (by simp;intro n hn;exact .inl hn))
      (g1.mono fun _ _ _ he=>he.mono fun _ _ _ hd=>hd.mono (fun _ _=>rfl) fun b hb=>ZcI hb (by simp;intro n hn;exact .inr hn)),fun j b hb=>?_⟩
     cases j with
     |zero=>simp at hb;subst hb;rfl
     |succ j=>simp at hb;rw [g2 j b hb];omega
    ·simp at hp
theorem Zxm {size:Nat}:∀(ps:List (Nat×Value)) (k:Nat) (pre:List Value) (post:List Value),(∀(i:Nat) b,ps[i]? =some b→b.1=k+i∧b.2.cells.size=size)→
  pre.length=k*size→post.length=ps.length*size→
  Instr.fill (fun i=>some (i*size,size)) ⟨pre++post⟩ ps=some ⟨pre++(ps.flatMap fun b=>b.2.cells.toList)⟩:=by
 intro ps;induction ps with
 |nil=>intro k pre post h h1 h2;have:post=[]:=List.eq_nil_of_length_eq_zero (by simpa using h2);subst this;simp [Instr.fill]
 |cons b ps ih=>
  intro k pre post h h1 h2;obtain ⟨i,v⟩:=b;obtain ⟨hi,hs⟩:=h 0 (i,v) rfl;simp at hi hs;subst hi;simp only [List.length_cons,Nat.add_mul,Nat.one_mul] at h2;have hfold:=Zlt v (i*size) ⟨pre++post⟩ (by simp [h1,h2,hs]);simp only [Instr.fill];rw [if_neg (by simp only [ne_eq,Bool.or_eq_true,decide_eq_true_eq,not_or];simp [hs,h1,h2]),hfold];have hsp:splice (pre++post) (i*size) v.cells.toList=(pre++v.cells.toList)++post.drop size:=by
   unfold splice;have:v.cells.toList.length=size:=by simpa using hs
   rw [←h1,List.take_left,this,←List.drop_drop,List.drop_left]
  rw [hsp,ih (i+1) (pre++v.cells.toList) (post.drop size) (fun j b hb=>by
   have:=h (j+1) b (by simpa using hb);exact ⟨by omega,this.2⟩) (by simp [h1,hs,Nat.add_mul]) (by simp;omega)]
  simp [List.append_assoc]
theorem Zxj {size:Nat}:∀(ps:List (Nat×Value)) (i j:Nat) b c,(∀b∈ps,b.2.cells.size=size)→ps[i]? =some b→b.2.cells[j]? =some c→j<size→
  (ps.flatMap fun b=>b.2.cells.toList)[i*size+j]? =some c:=by
 intro ps;induction ps with
 |nil=>intro i j b c _ h;simp at h
 |cons a ps ih=>
  intro i j b c hs h hc hj;have ha:a.2.cells.toList.length=size:=by simpa using hs a List.mem_cons_self
  rw [List.flatMap_cons];cases i with
  |zero=>
   simp at h;subst h;rw [List.getElem?_append_left (by omega)];simpa using hc
  |succ i=>
   rw [List.getElem?_append_right (by rw [ha,Nat.add_mul];omega),ha];rw [show (i+1)*size+j - size=i*size+j by rw [Nat.add_mul];omega];exact ih i j b c (fun b hb=>hs b (List.mem_cons_of_mem _ hb)) (by simpa using h) hc hj
end
end Go.Rx
namespace Go.Rx
open Go Go.RowKit
section
variable {P:Program} {T:Tys} {okIn U:Nat→Prop} {w0:World} {p:Nat→Prop} {w w':World} {ok ok':Nat→Prop} {lam lam':Nat→Option Nat} {H H':Heap} {v0:V} {u0:Upd} {cv:Value}
def Does (P:Program) (okIn U:Nat→Prop) (w0:World) (p:Nat→Prop) (tb:Nat) (w:World) (ok:Nat→Prop) (lam:Nat→Option Nat) (H:Heap) (v0:V) (u0:Upd) (s:Sem Value):Prop:=
 ∃cv w' lam' ok',s.run P w= .ok cv w'∧Eff okIn U w0 p (pX p tb) w ok lam H v0 (updF u0 H) w' cv lam' ok'
theorem Zmk (hT:TyOK P T) {t:Nat} {ti:TI} (h:(Zca T t).bind T=some ti):∃e it info d z info2 z2,TyAt P t it info (.slice e) z2∧T e=some ti∧TyAt P e ti info2 d z:=by
 cases he:Zca T t with
 |none=>simp [he] at h
 |some e=>
  simp [he] at h;obtain ⟨it,hTt,hkt⟩:=Zc7 he;obtain ⟨info,d,z,ht⟩:=hT t it hTt;obtain rfl:d= .slice e:=Zbl (hkt▸ht.kind);obtain ⟨infoe,de,ze,hte⟩:=hT e ti h;exact ⟨e,it,info,de,ze,infoe,z,ht,h,hte⟩
theorem Zy5 (hT:TyOK P T) (h:Ctx okIn U w0 p w ok lam H) {tb:Nat} (hf:Zey p tb) {t len:Nat} {ti:TI} (hti:(Zca T t).bind T=some ti) {ps:List (Nat×V)} {ps':Array (Nat×Value)}
  (hp:Rel2 (fun a b=>a.1=b.1∧VRel w ok lam H a.2 b.2) ps ps'.toList) (hv:ZjK tb len ti (ZbM H 0 ps) (eqK v0 u0)):
  Does P okIn U w0 p tb w ok lam H v0 u0 (Instr.buildSlice t len ps'):=by
 cases hl:ZbM H 0 ps with
 |none=>rw [hl] at hv;simp [ZjK] at hv
 |some pr=>
  obtain ⟨es,ls⟩:=pr;rw [hl] at hv;simp only [ZjK] at hv;obtain ⟨h1,h0,h2,h3,_,rfl,rfl⟩:=hv;obtain ⟨e,it,info,de,ze,infoe,z2,ht,hTe,hte⟩:=Zmk hT hti;obtain ⟨g1,g2⟩:=ZkG h.hok ps ps'.toList 0 es ls hp hl;have hlen:ps'.toList.length=len:=by rw [←g1.1];exact h1
  have hsz:∀(i:Nat) b,ps'.toList[i]? =some b→b.1=0+i∧b.2.cells.size=ti.size:=fun i b hb=>by
   obtain ⟨x,hx,hr⟩:=g1.get' hb;refine ⟨g2 i b hb,?_⟩;have:=hr.1;rw [h3 x (List.mem_of_getElem? hx)] at this;simpa using this.symm
  have hfill:∀A:Array Value,A.size=len*ti.size→Instr.fill (fun i=>some (i*ti.size,ti.size)) A ps'.toList=some ⟨ps'.toList.flatMap fun b=>b.2.cells.toList⟩:=fun A hA=>by
   have:=Zxm (size:=ti.size) ps'.toList 0 [] A.toList hsz (by simp) (by rw [hlen];simpa using hA);simpa using this
  let cs:List Value:=ps'.toList.flatMap fun b=>b.2.cells.toList
  have hrun:(Instr.buildSlice t len ps').run P w= .ok (.slice (some ⟨w.heap.size,0,none⟩) len len) (w.alloc (.cells ⟨cs⟩ e)):=by
   have hno:¬(16777216<len*ti.size):=by omega
   by_cases hz:len*ti.size=0
   ·have:=hfill (Array.map (fun _=>default) (Array.range 0)) (by simp [hz]);simp [Instr.buildSlice,ht.run_und,hte.run_sizeOf,hz,newRow,this];rfl
   ·have:=hfill ((Array.range (len*ti.size)).map (ze.cells[·%ze.cells.size]!)) (by simp);simp [Instr.buildSlice,ht.run_und,hte.run_sizeOf,hz,hno,hte.run_zero,newRow,this];rfl
  have hcl:cs.length=len*ti.size:=by
   have:∀(l:List (Nat×Value)),(∀b∈l,b.2.cells.size=ti.size)→(l.flatMap fun b=>b.2.cells.toList).length=l.length*ti.size:=by
    intro l hl;induction l with
    |nil=>simp
    |cons a l ih=>simp only [List.flatMap_cons,List.length_append,List.length_cons,ih fun b hb=>hl b (List.mem_cons_of_mem _ hb)];have:=hl a List.mem_cons_self;simp [this,Nat.add_mul];omega
   rw [this _ fun b hb=>by obtain ⟨i,hi,e⟩:=List.mem_iff_getElem.1 hb;exact (hsz i b (by rw [List.getElem?_eq_getElem hi,e])).2,hlen]
  obtain ⟨lam',ok',he⟩:=ZdL (w':=w.alloc (.cells ⟨cs⟩ e)) h hf ls (m:=ti.size) (len:=len) (cap:=len) (xs:=es) (cs:=⟨cs⟩) (Te:=e) (fr:=(0,0))
   (fun b hb=>heap_alloc_old w _ b hb) (by simp) ⟨rfl,rfl,rfl⟩ (heap_alloc_new w _) ⟨by simp only [List.size_toArray,hcl];exact Nat.mul_le_mul_right _ (by unfold LEN;omega),fun i=>by simp⟩ h3 (by unfold MAX;omega) (by omega) (Nat.le_refl _) (by simp [hcl]) (by simp [hcl,h1]) (fun i x j d hi hj=>by
    obtain ⟨b,hb,hr⟩:=g1.get hi;obtain ⟨c,hc,hd⟩:=hr.get hj;have hjlt:j<ti.size:=by rw [←h3 x (List.mem_of_getElem? hi)];exact (List.getElem?_eq_some_iff.1 hj).1
    refine ⟨c,?_,hd⟩;have:=Zxj (size:=ti.size) ps'.toList i j b c (fun b hb=>by obtain ⟨i,hi,e⟩:=List.mem_iff_getElem.1 hb;exact (hsz i b (by rw [List.getElem?_eq_getElem hi,e])).2) hb (by simpa using hc) hjlt;simpa using this)
  exact ⟨_,_,lam',ok',hrun,he⟩
end
end Go.Rx
namespace Go.Rx
open Go Go.RowKit
section
variable {P:Program} {T:Tys} {okIn U:Nat→Prop} {w0:World} {p:Nat→Prop} {w w':World} {ok ok':Nat→Prop} {lam lam':Nat→Option Nat} {H H':Heap} {v0:V} {u0:Upd} {cv:Value}
theorem Zjd:∀ {zs:List Z} {vs:List Value},Rel2 Z.rel zs vs→Rel2 (fun d v=>∀w ok,DRel w ok d v) (Zf9 zs) vs:=by
 intro zs;induction zs with
 |nil=>intro vs h;rw [h.nil_left];exact Rel2.nil _
 |cons z zs ih=>
  intro vs h;obtain ⟨v,m,rfl,hv,hm⟩:=h.uncons;cases z with
  |d x=>exact Rel2.cons hv (ih hm)
  |nils m'=>exact Rel2.cons (fun w ok=>by have:v= .slice none 0 0:=hv;subst this;exact .sl0 _ _) (ih hm)
theorem Zdc (zs:List Z):(Zf9 zs).length=zs.length:=by
 induction zs with
 |nil=>rfl
 |cons z zs ih=>cases z<;>simp [Zf9,ih]
theorem ZwY (hT:TyOK P T) (h:Ctx okIn U w0 p w ok lam H) {tb:Nat} (hf:Zey p tb) {t:Nat} {ti:TI} (hti:(Zca T t).bind T=some ti) {l c:V} {lv cvv:Value}
  (hl:VRel w ok lam H l lv) (hc:VRel w ok lam H c cvv) (hv:Zgn tb ti l c (eqK v0 u0)):Does P okIn U w0 p tb w ok lam H v0 u0 (Instr.makeSlice t lv cvv):=by
 unfold Zgn at hv;split at hv
 ·rename_i k n k' n';obtain ⟨rfl,h0,h1,h2,h3,rfl,rfl⟩:=hv;cases hl.inv_d;cases hc.inv_d;obtain ⟨e,it,info,de,ze,infoe,z2,ht,hTe,hte⟩:=Zmk hT hti;have hb:(infoe.bytes:Int)*n≤281474976710656:=by
   rw [hte.bytes];have:(ti.bytes:Int)*n≤4096*4294967296:=Int.mul_le_mul (by omega) (by omega) h0 (by omega);omega
  have hrun:=run_make (P:=P) w t e infoe ze ht.und hte.inf hte.zero k k' n n h0 (Int.le_refl _) hb (by omega);rw [hte.size] at hrun;have hzl:ze.cells.size=ti.size:=by have:=hte.zrel.1;rw [h3] at this;simpa using this.symm
  have hzd:=Zjd hte.zrel;obtain ⟨lam',ok',he⟩:=ZdL (w':=w.alloc (.cells (madeCells ze.cells (n.toNat*ti.size)) e)) h hf [] (m:=ti.size) (len:=n.toNat) (cap:=n.toNat) (xs:=List.replicate n.toNat (Zf9 ti.zero))
   (cs:=madeCells ze.cells (n.toNat*ti.size)) (Te:=e) (fr:=(0,0)) (fun b hb=>heap_alloc_old w _ b hb) (by simp) ⟨rfl,rfl,rfl⟩ (heap_alloc_new w _) ⟨by rw [size_madeCells];exact Nat.mul_le_mul_right _ (by unfold LEN;omega),fun i=>by simp⟩
   (fun x hx=>by rw [List.eq_of_mem_replicate hx,Zdc,h3]) (by simp [MAX];omega) (by simp) (Nat.le_refl _) (by simp [size_madeCells]) (by simp [size_madeCells]) (fun i x j d hi hj=>by
    have hlt:i<n.toNat:=by have:=(List.getElem?_eq_some_iff.1 hi).1;simpa using this
    have hx:x=Zf9 ti.zero:=List.eq_of_mem_replicate (List.mem_of_getElem? hi);subst hx;obtain ⟨c,hc,hd⟩:=hzd.get hj;have hjl:j<ti.size:=by have:=(List.getElem?_eq_some_iff.1 hj).1;rw [Zdc,h3] at this;exact this
    refine ⟨c,?_,hd _ _⟩;have hb:i*ti.size+j<n.toNat*ti.size:=by
     have:(i+1)*ti.size≤n.toNat*ti.size:=Nat.mul_le_mul_right _ hlt;rw [Nat.add_mul] at this;omega
    simp only [madeCells];rw [Array.getElem?_map,Array.getElem?_range,if_pos hb];simp only [Option.map_some];have hmod:(i*ti.size+j)%ze.cells.size=j:=by rw [hzl,Nat.mul_comm,Nat.mul_add_mod];exact Nat.mod_eq_of_lt hjl
    rw [hmod];have hjz:j<ze.cells.size:=by omega
    simp at hc;rw [getElem!_pos ze.cells j hjz];rw [Array.getElem?_eq_getElem hjz] at hc;exact hc)
  exact ⟨_,_,lam',ok',hrun,he⟩
 ·exact hv.elim
theorem ZmP {t b off:Nat} {i:TI} {info:TypeInfo} {d:TypeDesc} {z:Value} (ht:TyAt P t i info d z) {xv:Value} {cs:List Value} {Te:TypeId} {fr:Nat×Nat}
  (hsz:xv.cells.size=i.size) (hb:w.heap[b]? =some (.cells ⟨cs⟩ Te fr)) (hle:off+i.size≤cs.length) (hfz:∀i,i<cs.length→w.frozen? ⟨b,i,none⟩=false) (h1:∀v∈xv.cells.toList,v.oneCell'=true):
  (Instr.storeAt t (.pointer (some ⟨b,off,none⟩)) xv).run P w= .ok () (w.setCells b off xv.cells.toList):=by
 have hl:xv.cells.toList.length=i.size:=by simpa using hsz
 have:=run_storeCells_cells (P:=P) b off xv.cells.toList 0 w (fun j hj=>by
   rw [cell_of_row w b _ ⟨cs⟩ Te fr hb];simp;omega) (fun j hj=>hfz _ (by omega)) h1
 simp only [Nat.add_zero] at this;simp [Instr.storeAt,Instr.sureAddr,storeVar,ht.run_sizeOf,hsz,this]
theorem ZmQ (hT:TyOK P T) (h:Ctx okIn U w0 p w ok lam H) {tb:Nat} (hf:Zey p tb) {t n off:Nat} {ti:TI} (hTt:T t=some ti) {vs:List V} {x:V} {ptv xv:Value}
  (hx:VRel w ok lam H x xv) (hxc:x.cells=some vs) (hvg:∀v∈vs,ZaJ p v) (hlen:vs.length=ti.size) (hsm:ti.size≤900) (hone:(vs.all V.one)=true) (hp:VRel w ok lam H (.ref n off) ptv)
  {cells:List V} (hn:H n=some (.box cells)) (hle:off+ti.size≤cells.length):
  ∃w' lam' ok',(Instr.storeAt t ptv xv).run P w= .ok () w'∧
   Eff okIn U w0 p (pX p tb) w ok lam H (.d .und) (updF ((ZbK tb 0 vs ti.zero).2++[(n,some (.box (Zg3 cells off (ZbK tb 0 vs ti.zero).1)))]) H) w' undef lam' ok':=by
 obtain ⟨info,d,z,ht⟩:=hT t ti hTt;have hxv:=V.cells_sound hx hxc;obtain ⟨b,cs,Te,hl,hb,hrel,_⟩:=Zki (off:=off) h.hok hn;cases hp with|ref _ hp=>
 obtain ⟨b',hb',rfl⟩:=hp _ hn;obtain rfl:b=b':=by rw [hl] at hb';exact Option.some.inj hb'
 have hcl:cells.length=cs.length:=hrel.1;have hxl:xv.cells.size=ti.size:=by have:=hxv.1;simp at this;omega
 have hfz:∀i,i<cs.length→w.frozen? ⟨b,i,none⟩=false:=fun i _=>frozen_of_row w b i ⟨cs⟩ Te hb
 have h1:∀v∈xv.cells.toList,v.oneCell'=true:=fun v hv=>by
  obtain ⟨i,hi,rfl⟩:=List.mem_iff_getElem.1 hv;obtain ⟨y,hy,hr⟩:=hxv.get' (List.getElem?_eq_getElem hi);exact hr.one (List.all_eq_true.1 hone y (List.mem_of_getElem? hy))
 have hrun:=ZmP (P:=P) (w:=w) (off:=off) ht hxl hb (by omega) hfz h1;have hpn:p n:=h.dom n (by rw [hn];simp);obtain ⟨lam1,a1,a2,a3,a4,a5,a6,a7,a8⟩:=ZjG (tb:=tb) vs xv.cells.toList ti.zero 0 p lam H h.hok h.good h.dom (fun j _ hj=>hf _ (by omega) (by omega)) hxv hvg;have hq:∀k,(p k∨tb+1+0≤k∧k<tb+1+0+vs.length)→pX p tb k:=fun k hk=>by
  rcases hk with hk|hk
  ·exact .inl hk
  ·exact .inr ⟨by omega,by omega⟩
 obtain ⟨e1,e2⟩:=a8 n hpn;have hheap:=ZcF b Te (0,0) xv.cells.toList off w cs hb (by have:=hxv.1;omega);obtain ⟨m1,m2,m3,m4⟩:=ZdA b xv.cells.toList off w;obtain ⟨b1,b2⟩:=a1.upd (p:=fun k=>p k∨tb+1+0≤k∧k<tb+1+0+vs.length) (w':=w.setCells b off xv.cells.toList) (n:=n) (b:=b) (o:= .box cells) (o':= .box (Zg3 cells off (ZbK tb 0 vs ti.zero).1))
  (e1.trans hn) (e2.trans hl) a5 a6 (fun k hk=>Zbj b _ off w k hk) m1 (fun c T f hc=>by
   rw [hb] at hc;cases hc;exact ⟨⟨splice cs off xv.cells.toList⟩,Te,(0,0),hheap,by simp [splice];omega⟩) (.inl ⟨_,_,rfl,rfl⟩) (fun hc=>by
   refine ⟨b,⟨splice cs off xv.cells.toList⟩,Te,e2.trans hl,hheap,?_,fun i v c hv hcc=>?_⟩
   ·have:=(hrel.splice hxv off).1;have l2:(ZbK tb 0 vs ti.zero).1.length=vs.length:=by rw [a3.1,hxv.1]
    simp [Zg3,splice,l2] at this ⊢;omega
   ·have hspl:Rel2 (VRel (w.setCells b off xv.cells.toList) ok lam1 (fun k=>if n=k then some (.box (Zg3 cells off (ZbK tb 0 vs ti.zero).1)) else updF (ZbK tb 0 vs ti.zero).2 H k)) (Zg3 cells off (ZbK tb 0 vs ti.zero).1) (splice cs off xv.cells.toList):=by
     rw [ZmX];refine Rel2.splice (hrel.mono fun y c hy hr=>hc.v (a2.v hr (h.good n _ hn y hy)) ((h.good n _ hn y hy).mono fun _ h=> .inl h)) (a3.mono fun y c hy hr=>hc.v hr (a4 y hy)) off
    exact hspl.2 i v c hv (by simpa using hcc))
 refine ⟨_,lam1,ok,hrun,?_⟩;rw [ZcV,ZeU];refine ⟨⟨b1,fun k o ho=>?_,fun k hk=>?_,h.okb,fun k c hk hc=>?_,by rw [m1];exact h.size⟩,.d .und,.d _,⟨m2,m3,m4,by rw [m1];exact Nat.le_refl _,fun k hk hu=>?_,Zeq hb (by have:=hxv.1;omega)⟩,fun y v hg hv=>b2.v (a2.v hv hg) (hg.mono fun _ h=> .inl h)⟩
 ·by_cases e:n=k
  ·rw [if_pos e] at ho;cases ho;intro v hv;simp only [Zg3,List.mem_append] at hv;rcases hv with (hv|hv)|hv
   ·exact (h.good n _ hn v (List.mem_of_mem_take hv)).mono fun _ h=> .inl h
   ·exact (a4 v hv).mono hq
   ·exact (h.good n _ hn v (List.mem_of_mem_drop hv)).mono fun _ h=> .inl h
  ·rw [if_neg e] at ho;exact (a5 k o ho).mono hq
 ·by_cases e:n=k
  ·subst e;exact .inl hpn
  ·rw [if_neg e] at hk;exact hq k (a6 k hk)
 ·by_cases e:n=k
  ·subst e;rw [e2] at hc;exact h.ownb n c (by rw [hn];simp) hc
  ·rw [if_neg e] at hk;obtain ⟨k1,k2⟩:=a7 k c hk hc;exact h.ownb k c k1 k2
 ·refine Zbj b _ off w k fun e=>hu ?_
  subst e;exact h.ownb n k (by rw [hn];simp) hl
end
end Go.Rx
namespace Go.Rx
open Go Go.RowKit
section
variable {P:Program} {T:Tys} {okIn U:Nat→Prop} {w0:World} {p:Nat→Prop} {w w':World} {ok ok':Nat→Prop} {lam lam':Nat→Option Nat} {H H':Heap} {v0:V} {u0:Upd} {cv:Value}
theorem ZdX {ls:List Nat} {H:Heap} {n:Nat} {o:AObj} (h:remF ls H n=some o):n∉ls∧H n=some o:=by
 unfold remF at h;split at h
 ·cases h
 ·exact ⟨‹_›,h⟩
theorem ZhM {l:List Value} {off:Nat} {vs:List Value} {k:Nat} (hle:off+vs.length≤l.length):
  (splice l off vs)[k]? =if k<off then l[k]? else if k<off+vs.length then vs[k - off]? else l[k]? :=by
 unfold splice;have h1:(l.take off).length=off:=by simp;omega
 split
 ·rename_i hk;rw [List.append_assoc,List.getElem?_append_left (by omega),List.getElem?_take,if_pos hk]
 ·rename_i hk;split
  ·rename_i hk2;rw [List.append_assoc,List.getElem?_append_right (by omega),h1,List.getElem?_append_left (by omega)]
  ·rename_i hk2;rw [List.getElem?_append_right (by simp;omega),List.getElem?_drop];congr 1;simp;omega
theorem ZoM (hT:TyOK P T) (h:Ctx okIn U w0 p w ok lam H) {tb:Nat} {t n i j:Nat} {ti:TI} (hTt:T t=some ti) {vs:List V} {x:V} {ptv xv:Value}
  (hx:VRel w ok lam H x xv) (hxc:x.cells=some vs) (hlen:vs.length=ti.size) (hone:(vs.all V.one)=true) (hp:VRel w ok lam H (.el n i j) ptv)
  {m:Nat} {xs:List (List D)} (hn:H n=some (.arr m xs)) {ds:List D} {ls:List Nat} (hcd:cDs H vs=some (ds,ls)) (hi:i<xs.length) (hj:j+ti.size≤m) (hls:n∉ls):
  ∃w' lam' ok',(Instr.storeAt t ptv xv).run P w= .ok () w'∧
   Eff okIn U w0 p (pX p tb) w ok lam H (.d .und) (updF (ls.map (·,none)++[(n,some (.arr m (xs.set i ((lget xs i).take j++ds++(lget xs i).drop (j+ds.length)))))]) H) w' undef lam' ok':=by
 obtain ⟨info,d,z,ht⟩:=hT t ti hTt;have hxv:=V.cells_sound hx hxc;have hdv:=ZhA h.hok hxv hcd;obtain ⟨hm,hmax,hc⟩:=h.hok.obj n _ hn;have hxi:xs[i]? =some (lget xs i):=by simp [lget,List.getD,hi]
 have hrow:(lget xs i).length=m:=hm _ (List.mem_of_getElem? hxi);rcases hc with ⟨_,hz⟩|⟨b,⟨cs⟩,Te,fr,hl,hb,hfz,hsz,hel⟩
 ·subst hz;simp at hi
 have hsz':xs.length*m≤cs.length:=by simpa using hsz
 cases hp with|el _ hp=>
 obtain ⟨_,b',hb',rfl⟩:=hp m xs hn;obtain rfl:b=b':=by rw [hl] at hb';exact Option.some.inj hb'
 have hxl:xv.cells.size=ti.size:=by have:=hxv.1;simp at this;omega
 have hdl:ds.length=ti.size:=by have:=hdv.1;simp at this;omega
 have hin:(i+1)*m≤xs.length*m:=Nat.mul_le_mul_right _ hi;rw [Nat.add_mul,Nat.one_mul] at hin;have h1:∀v∈xv.cells.toList,v.oneCell'=true:=fun v hv=>by
  obtain ⟨i,hi,rfl⟩:=List.mem_iff_getElem.1 hv;obtain ⟨y,hy,hr⟩:=hxv.get' (List.getElem?_eq_getElem hi);exact hr.one (List.all_eq_true.1 hone y (List.mem_of_getElem? hy))
 have hrun:=ZmP (P:=P) (w:=w) (off:=i*m+j) ht hxl hb (by omega) (fun k _=>hfz.2 k) h1;have hpn:p n:=h.dom n (by rw [hn];simp);obtain ⟨r1,r2⟩:=h.hok.rem (p:=p) ls h.good h.dom;have hg1:∀k o,remF ls H k=some o→Zgg p o:=fun k o ho=>h.good k o (ZdX ho).2
 have hd1:∀k,remF ls H k≠none→p k:=fun k hk=>by
  cases hh:remF ls H k with
  |none=>exact absurd hh hk
  |some o=>exact h.dom k (by rw [(ZdX hh).2];simp)
 have hn1:remF ls H n=some (.arr m xs):=by unfold remF;rw [if_neg hls];exact hn
 have hvl:xv.cells.toList.length=ti.size:=by simpa using hxl
 have hszd:i*m+j+xv.cells.toList.length≤cs.length:=by omega
 have hheap:=ZcF b Te fr xv.cells.toList (i*m+j) w cs hb (by omega);obtain ⟨m1,m2,m3,m4⟩:=ZdA b xv.cells.toList (i*m+j) w;have hnl:((lget xs i).take j++ds++(lget xs i).drop (j+ds.length)).length=m:=by simp;omega
 obtain ⟨b1,b2⟩:=r1.upd (p:=p) (w':=w.setCells b (i*m+j) xv.cells.toList) (n:=n) (b:=b) (o:= .arr m xs) (o':= .arr m (xs.set i ((lget xs i).take j++ds++(lget xs i).drop (j+ds.length))))
  hn1 hl hg1 hd1 (fun k hk=>Zbj b _ _ w k hk) m1 (fun c T f hc=>by
   rw [hb] at hc;cases hc;exact ⟨⟨splice cs (i*m+j) xv.cells.toList⟩,Te,fr,hheap,by simp [splice];omega⟩) (.inr ⟨m,xs,_,rfl,rfl,by simp⟩) (fun hc=>by
   refine ⟨fun e he=>?_,by simpa using hmax,.inr ⟨b,⟨splice cs (i*m+j) xv.cells.toList⟩,Te,fr,hl,hheap,⟨?_,fun k=>?_⟩,?_,fun i' e j' d' hi' hj'=>?_⟩⟩
   ·rcases List.mem_or_eq_of_mem_set he with he|he
    ·exact hm e he
    ·rw [he];exact hnl
   ·have:=hfz.1;simp [splice] at this ⊢;omega
   ·have hf0:=hfz.2 k;simp only [World.frozen?,hb] at hf0;simp only [World.frozen?,hheap];exact hf0
   ·simp [splice];omega
   ·have hil:i'<xs.length:=by have:=(List.getElem?_eq_some_iff.1 hi').1;simpa using this
    have hjm:j'<m:=by
     have:=(List.getElem?_eq_some_iff.1 hj').1;have he:e.length=m:=by
      rcases List.mem_or_eq_of_mem_set (List.mem_of_getElem? hi') with he|he
      ·exact hm e he
      ·rw [he];exact hnl
     omega
    have hsg:=fun k=>ZhM (l:=cs) (off:=i*m+j) (vs:=xv.cells.toList) (k:=k) (by omega)
    have hconv:(⟨splice cs (i*m+j) xv.cells.toList⟩:Array Value)[i'*m+j']? =(splice cs (i*m+j) xv.cells.toList)[i'*m+j']? :=by simp
    rw [hconv,hsg,hvl];by_cases he:i'=i
    ·subst he;rw [List.getElem?_set_self hil] at hi';cases hi';by_cases h3:j'<j
     ·rw [if_pos (by omega)];rw [List.append_assoc,List.getElem?_append_left (by simp;omega),List.getElem?_take,if_pos h3] at hj';obtain ⟨c,hc1,hc2⟩:=hel i' _ j' d' hxi hj';exact ⟨c,by simpa using hc1,(hc2.mono r2.hw r2.hok).mono hc.hw hc.hok⟩
     ·rw [if_neg (by omega)];by_cases h4:j'<j+ti.size
      ·rw [if_pos (by omega)];rw [List.append_assoc,List.getElem?_append_right (by simp;omega),List.getElem?_append_left (by simp;omega)] at hj';have hjj:(List.take j (lget xs i')).length=j:=by simp;omega
       rw [hjj] at hj';obtain ⟨c,hc1,hc2⟩:=hdv.get hj';exact ⟨c,by rw [show i'*m+j' - (i'*m+j)=j' - j by omega];exact hc1,hc2.mono hc.hw hc.hok⟩
      ·rw [if_neg (by omega)];rw [List.getElem?_append_right (by simp;omega),List.getElem?_drop] at hj';have hidx:j+ds.length+(j' - (List.take j (lget xs i')++ds).length)=j':=by simp;omega
       rw [hidx] at hj';obtain ⟨c,hc1,hc2⟩:=hel i' _ j' d' hxi hj';exact ⟨c,by simpa using hc1,(hc2.mono r2.hw r2.hok).mono hc.hw hc.hok⟩
    ·rw [List.getElem?_set_ne (Ne.symm he)] at hi';obtain ⟨c,hc1,hc2⟩:=hel i' e j' d' hi' hj';have hout:i'*m+j'<i*m+j∨i*m+j+ti.size≤i'*m+j':=by
      rcases Nat.lt_or_gt_of_ne he with hlt|hgt
      ·have:(i'+1)*m≤i*m:=Nat.mul_le_mul_right _ hlt;rw [Nat.add_mul] at this;left;omega
      ·have:(i+1)*m≤i'*m:=Nat.mul_le_mul_right _ hgt;rw [Nat.add_mul] at this;right;omega
     refine ⟨c,?_,(hc2.mono r2.hw r2.hok).mono hc.hw hc.hok⟩;have hc1':cs[i'*m+j']? =some c:=by simpa using hc1
     rcases hout with ho|ho
     ·rw [if_pos ho];exact hc1'
     ·rw [if_neg (by omega),if_neg (by omega)];exact hc1')
 refine ⟨_,lam,okB ok lam H ls,hrun,?_⟩;rw [ZcV,ZeU,ZiQ];have hne:∀k,(if n=k then some (AObj.arr m (xs.set i ((lget xs i).take j++ds++(lget xs i).drop (j+ds.length)))) else remF ls H k)≠none→H k≠none:=fun k hk=>by
  by_cases e:n=k
  ·subst e;rw [hn];simp
  ·rw [if_neg e] at hk;cases hh:remF ls H k with
   |none=>exact absurd hh hk
   |some o=>rw [(ZdX hh).2];simp
 refine ⟨⟨b1,fun k o ho=>?_,fun k hk=> .inl (h.dom k (hne k hk)),fun c hc=>?_,fun k c hk hc=>h.ownb k c (hne k hk) hc,by rw [m1];exact h.size⟩,.d .und,.d _,⟨m2,m3,m4,by rw [m1];exact Nat.le_refl _,fun k hk hu=>?_,Zeq hb hszd⟩,fun y v hg hv=>b2.v (r2.v hv hg) hg⟩
 ·by_cases e:n=k
  ·rw [if_pos e] at ho;cases ho;trivial
  ·rw [if_neg e] at ho;exact (hg1 k o ho).mono fun _ h=> .inl h
 ·rcases hc with hc|⟨k,_,hk1,hk2⟩
  ·exact h.okb c hc
  ·exact .inr (h.ownb k c hk1 hk2)
 ·refine Zbj b _ _ w k fun e=>hu ?_
  subst e;exact h.ownb n k (by rw [hn];simp) hl
end
end Go.Rx
namespace Go.Rx
open Go Go.RowKit
section
variable {P:Program} {T:Tys} {okIn U:Nat→Prop} {w0:World} {p:Nat→Prop} {w w':World} {ok ok':Nat→Prop} {lam lam':Nat→Option Nat} {H H':Heap} {v0:V} {u0:Upd} {cv:Value}
theorem ZeT {xs:List (List D)} {off n:Nat} {z:List D} (h:off+n≤xs.length):(Zez xs off n z).length=xs.length:=by
 simp [Zez];omega
theorem ZkO {xs:List (List D)} {off n:Nat} {z:List D} (h:off+n≤xs.length) {i:Nat} {e:List D} (hi:(Zez xs off n z)[i]? =some e):
  (off≤i∧i<off+n∧e=z)∨((i<off∨off+n≤i)∧xs[i]? =some e):=by
 unfold Zez at hi;have h1:(xs.take off).length=off:=by simp;omega
 by_cases ha:i<off
 ·rw [List.append_assoc,List.getElem?_append_left (by omega),List.getElem?_take,if_pos ha] at hi;exact .inr ⟨.inl ha,hi⟩
 ·by_cases hb:i<off+n
  ·rw [List.append_assoc,List.getElem?_append_right (by omega),h1,List.getElem?_append_left (by simp;omega),List.getElem?_replicate,if_pos (by omega)] at hi;exact .inl ⟨by omega,hb,(Option.some.inj hi).symm⟩
  ·rw [List.getElem?_append_right (by simp;omega),List.getElem?_drop] at hi;refine .inr ⟨.inr (by omega),?_⟩;rw [←hi];congr 1;simp;omega
theorem ZoB {xs:List (List D)} {off:Nat} {z:List D}:Zez xs off 0 z=xs:=by simp [Zez]
theorem ZtL {H:Heap} {n:Nat} {o:AObj} (h:H n=some o):updF [(n,some o)] H=H:=by
 rw [ZeU];funext k;by_cases e:n=k
 ·subst e;simp [h]
 ·rw [if_neg e]
theorem ZeS {zs : List Value} {n m : Nat} (hm : zs.length = m) {k : Nat} (hk : k < n * m) : (Builtin.zeroCells ⟨zs⟩ n).toList[k]? = zs[k % m]? := by
  have hpos : 0 < m := by rcases Nat.eq_zero_or_pos m with h | h; · subst h; simp at hk
                          · exact h
  have hlt : k % m < zs.length := by rw [hm]; exact Nat.mod_lt _ hpos
  simp only [Builtin.zeroCells, Array.toList_map, Array.toList_range, List.size_toArray, hm];rw [List.getElem?_map, List.getElem?_range (by simpa using hk)];simp only [Option.map_some];rw [List.getElem?_eq_getElem hlt];congr 1;rw [getElem!_pos _ _ (by simpa using hlt)];rfl
theorem ZiH {zs:List Value} {n:Nat}:(Builtin.zeroCells ⟨zs⟩ n).toList.length=n*zs.length:=by simp [Builtin.zeroCells]
theorem ZvL (h : Ctx okIn U w0 p w ok lam H) {tb : Nat} {n off len m : Nat} {xs : List (List D)} (hn : H n = some (.arr m xs)) {v : Value} (hv : VRel w ok lam H (.own n off len) v)
    {zs : List Value} {zd : List D} (hzl : zd.length = m) (hz : Rel2 (DRel w ok) zd zs) (h1 : ∀ v ∈ zs, v.oneCell' = true) :
    (v = .slice none 0 0 ∧ ∃ lam' ok', Eff okIn U w0 p (pX p tb) w ok lam H (.tup []) (updF [(n, some (.arr m (Zez xs off len zd)))] H) w (.tuple #[]) lam' ok') ∨
    ∃ a cap, v = .slice (some a) len cap ∧
      ((len = 0 ∧ ∃ lam' ok', Eff okIn U w0 p (pX p tb) w ok lam H (.tup []) (updF [(n, some (.arr m (Zez xs off len zd)))] H) w (.tuple #[]) lam' ok') ∨
       (len ≠ 0 ∧ ∃ w' lam' ok', (storeCells a (Builtin.zeroCells ⟨zs⟩ len).toList).run P w = .ok () w' ∧ Eff okIn U w0 p (pX p tb) w ok lam H (.tup []) (updF [(n, some (.arr m (Zez xs off len zd)))] H) w' (.tuple #[]) lam' ok')) := by
  have quiet : len = 0 → ∃ lam' ok', Eff okIn U w0 p (pX p tb) w ok lam H (.tup []) (updF [(n, some (.arr m (Zez xs off len zd)))] H) w (.tuple #[]) lam' ok' := fun e => by
    subst e;rw [ZoB, ZtL hn];exact ⟨lam, ok, Eff.quiet h (fun _ h => .inl h) (.tup rfl (fun i d v h _ => by simp at h)) (.tup (by simp))⟩
  cases hv with | own _ hv =>
  obtain ⟨hle, hv⟩ := hv m xs hn;rcases hv with ⟨e1, rfl, e3⟩ | ⟨b, o, cap, ⟨cs⟩, Te, fr, hl, rfl, hlc, ho, hb, hoc⟩
  · exact .inl ⟨rfl, quiet e3⟩
  refine .inr ⟨_, cap, rfl, ?_⟩;by_cases hlen : len = 0
  · exact .inl ⟨hlen, quiet hlen⟩
  refine .inr ⟨hlen, ?_⟩;have ho : o = off * m := ho.resolve_left (by omega);subst ho;obtain ⟨hm, hmax, hc⟩ := h.hok.obj n _ hn;rcases hc with ⟨hln, _⟩ | ⟨b', ⟨cs'⟩, Te', fr', hl', hb', hfz, hsz, hel⟩
  · rw [hln] at hl; cases hl
  obtain rfl : b = b' := by rw [hl] at hl'; exact Option.some.inj hl'
  rw [hb] at hb';cases hb';have hsz' : xs.length * m ≤ cs.length := by simpa using hsz
  have hzsl : zs.length = m := by rw [← hz.1]; exact hzl
  have hvl : (Builtin.zeroCells ⟨zs⟩ len).toList.length = len * m := by rw [ZiH, hzsl]
  generalize hVs : (Builtin.zeroCells ⟨zs⟩ len).toList = Vs at hvl;have hin : (off + len) * m ≤ xs.length * m := Nat.mul_le_mul_right _ hle;rw [Nat.add_mul] at hin;have hone : ∀ v ∈ Vs, v.oneCell' = true := fun v hv => by
    obtain ⟨k, hk, rfl⟩ := List.mem_iff_getElem.1 hv;have : Vs[k]? = zs[k % m]? := by rw [← hVs]; exact ZeS hzsl (by omega)
    rw [List.getElem?_eq_getElem hk] at this;exact h1 _ (List.mem_of_getElem? this.symm)
  have hrun := run_storeCells_cells (P := P) b (off * m) Vs 0 w (fun j hj => by
      rw [cell_of_row w b _ ⟨cs⟩ Te fr hb];simp; omega) (fun j _ => hfz.2 _) hone
  simp only [Nat.add_zero] at hrun;have hpn : p n := h.dom n (by rw [hn]; simp);have hheap := ZcF b Te fr Vs (off * m) w cs hb (by omega);obtain ⟨m1, m2, m3, m4⟩ := ZdA b Vs (off * m) w;obtain ⟨b1, b2⟩ := h.hok.upd (p := p) (w' := w.setCells b (off * m) Vs) (n := n) (b := b) (o := .arr m xs) (o' := .arr m (Zez xs off len zd))
    hn hl h.good h.dom (fun k hk => Zbj b _ _ w k hk) m1 (fun c T f hc => by
      rw [hb] at hc; cases hc;exact ⟨⟨splice cs (off * m) Vs⟩, Te, fr, hheap, by simp [splice]; omega⟩) (.inr ⟨m, xs, _, rfl, rfl, by rw [ZeT hle]⟩) (fun hc => by
      refine ⟨fun e he => ?_, by rw [ZeT hle]; exact hmax, .inr ⟨b, ⟨splice cs (off * m) Vs⟩, Te, fr, hl, hheap, ⟨?_, fun k => ?_⟩, ?_, fun i' e j' d' hi' hj' => ?_⟩⟩
      · obtain ⟨i, hi⟩ := List.getElem?_of_mem he
        rcases ZkO hle hi with ⟨_, _, rfl⟩ | ⟨_, hx⟩
        · exact hzl
        · exact hm e (List.mem_of_getElem? hx)
      · have := hfz.1; simp [splice] at this ⊢; omega
      · have hf0 := hfz.2 k
        simp only [World.frozen?, hb] at hf0;simp only [World.frozen?, hheap];exact hf0
      · rw [ZeT hle]; simp [splice]; omega
      · have hsg := fun k => ZhM (l := cs) (off := off * m) (vs := Vs) (k := k) (by omega)
        have hconv : (⟨splice cs (off * m) Vs⟩ : Array Value)[i' * m + j']? = (splice cs (off * m) Vs)[i' * m + j']? := by simp
        rw [hconv, hsg, hvl];rcases ZkO hle hi' with ⟨g1, g2, rfl⟩ | ⟨g1, g2⟩
        · have hjm : j' < m := by have := (List.getElem?_eq_some_iff.1 hj').1; omega
          have k1 : off * m ≤ i' * m := Nat.mul_le_mul_right _ g1;have k2 : (i' + 1) * m ≤ (off + len) * m := Nat.mul_le_mul_right _ g2;rw [Nat.add_mul, Nat.one_mul, Nat.add_mul] at k2;have hvg : Vs[i' * m + j' - off * m]? = zs[(i' * m + j' - off * m) % m]? := by rw [← hVs]; exact ZeS hzsl (by omega)
          rw [if_neg (by omega), if_pos (by omega), hvg];have : (i' * m + j' - off * m) % m = j' := by
            have e1 : i' * m + j' - off * m = j' + m * (i' - off) := by
              rw [Nat.mul_comm m, Nat.sub_mul]; omega
            rw [e1, Nat.add_mul_mod_self_left, Nat.mod_eq_of_lt hjm]
          rw [this];obtain ⟨c, hc1, hc2⟩ := hz.get hj';exact ⟨c, hc1, hc2.mono hc.hw hc.hok⟩
        · have hjm : j' < m := by have := (List.getElem?_eq_some_iff.1 hj').1; rw [hm e (List.mem_of_getElem? g2)] at this; exact this
          obtain ⟨c, hc1, hc2⟩ := hel i' e j' d' g2 hj';refine ⟨c, ?_, hc2.mono hc.hw hc.hok⟩;have hc1' : cs[i' * m + j']? = some c := by simpa using hc1
          rcases g1 with g1 | g1
          · have : (i' + 1) * m ≤ off * m := Nat.mul_le_mul_right _ g1
            rw [Nat.add_mul, Nat.one_mul] at this;rw [if_pos (by omega)]; exact hc1'
          · have : (off + len) * m ≤ i' * m := Nat.mul_le_mul_right _ g1
            rw [Nat.add_mul] at this;rw [if_neg (by omega), if_neg (by omega)]; exact hc1')
  refine ⟨_, lam, ok, hrun, ?_⟩;rw [ZeU];have hne : ∀ k, (if n = k then some (AObj.arr m (Zez xs off len zd)) else H k) ≠ none → H k ≠ none := fun k hk => by
    by_cases e : n = k
    · subst e; rw [hn]; simp
    · rw [if_neg e] at hk; exact hk
  refine ⟨⟨b1, fun k o ho => ?_, fun k hk => .inl (h.dom k (hne k hk)), h.okb, fun k c hk hc => h.ownb k c (hne k hk) hc, by rw [m1]; exact h.size⟩, .tup rfl (fun i d v h _ => by simp at h), .tup (by simp), ⟨m2, m3, m4, by rw [m1]; exact Nat.le_refl _, fun k hk hu => ?_, Zeq hb (by omega)⟩, fun y v hg hv => b2.v hv hg⟩
  · by_cases e : n = k
    · rw [if_pos e] at ho; cases ho; trivial
    · rw [if_neg e] at ho; exact (h.good k o ho).mono fun _ h => .inl h
  · refine Zbj b _ _ w k fun e => hu ?_
    subst e;exact h.ownb n k (by rw [hn]; simp) hl
theorem ZsW (hT:TyOK P T) (h:Ctx okIn U w0 p w ok lam H) {tb:Nat} {ts:Array Nat} {ty:Nat} {ti:TI} {t:Nat} (h0:ts[0]? =some t) (hti:(Zca T t).bind T=some ti) {x:V} {xv:Value} (hx:VRel w ok lam H x xv)
  (hv:Zew H ti x (eqK v0 u0)):Does P okIn U w0 p tb w ok lam H v0 u0 (Builtin.clear_ ts ty #[xv]):=by
 cases x with
 |own n off len=>
  simp only [Zew] at hv;cases hn:H n with
  |none=>rw [hn] at hv;exact hv.elim
  |some ob=>
   cases ob with
   |box c=>rw [hn] at hv;exact hv.elim
   |arr m xs=>
    rw [hn] at hv;obtain ⟨rfl,hz0,rfl,rfl⟩:=hv;obtain ⟨e,it,info,de,ze,infoe,z2,ht,hTe,hte⟩:=Zmk hT hti;have hzl:ze.cells.size=ti.size:=by have:=hte.zrel.1;rw [hz0] at this;simpa using this.symm
    have hzd:=Zjd hte.zrel;have hz1:∀v∈ze.cells.toList,v.oneCell'=true:=fun v hv=>by
     obtain ⟨i,hi,rfl⟩:=List.mem_iff_getElem.1 hv;obtain ⟨y,hy,hr⟩:=hte.zrel.get' (List.getElem?_eq_getElem hi);cases y with
     |d y=>
      have h1:=hte.zone _ (List.mem_of_getElem? hy) y rfl;exact VRel.one (ok:=ok) (lam:=lam) (H:=H) (.d (hr w ok)) (by simpa [V.one] using h1)
     |nils m'=>
      have:ze.cells.toList[i]= .slice none 0 0:=hr;rw [this];rfl
    have hzc:ze.cells=⟨ze.cells.toList⟩:=rfl;rcases ZvL (P:=P) h (tb:=tb) hn hx (zs:=ze.cells.toList) (zd:=Zf9 ti.zero) (by rw [Zdc];exact hz0) (hzd.mono fun d v _ hr=>hr w ok) hz1 with ⟨rfl,lam',ok',hE⟩|⟨a,cap,rfl,⟨rfl,lam',ok',hE⟩|⟨hl,w',lam',ok',hrun,hE⟩⟩
    ·exact ⟨_,_,lam',ok',by simp [Builtin.clear_,h0,ht.run_und],hE⟩
    ·exact ⟨_,_,lam',ok',by simp [Builtin.clear_,h0,ht.run_und],hE⟩
    ·refine ⟨_,_,lam',ok',?_,hE⟩;rw [←hzc] at hrun;cases len with
     |zero=>exact absurd rfl hl
     |succ len=>simp [Builtin.clear_,h0,ht.run_und,hte.run_zero,hrun]
 |_=>exact hv.elim
end
end Go.Rx
namespace Go.Rx
open Go Go.RowKit
section
variable {P:Program} {T:Tys} {okIn U:Nat→Prop} {w0:World} {p:Nat→Prop} {w w':World} {ok ok':Nat→Prop} {lam lam':Nat→Option Nat} {H H':Heap} {v0:V} {u0:Upd} {cv:Value}
theorem ZkS (hT:TyOK P T) {tx:Nat} (h:ZkC T (some tx)=true):(∃e',P.underlying tx=some (.slice e'))∨P.underlying tx=some .string:=by
 simp only [ZkC,Bool.or_eq_true] at h;rcases h with h|h
 ·exact .inl (Zf2 hT h)
 ·exact .inr (ZjW hT h)
theorem Zjl (hT:TyOK P T) {size tx:Nat} {A:Option Addr} {c:Nat} (htx:ZkC T (some tx)=true):Src P size tx (.slice A 0 c) 0 [] w:=by
 refine ⟨ZkS hT htx,fun _=>rfl,?_,?_,by simp,by simp⟩
 ·cases A with
  |none=>rfl
  |some a=>exact run_firstCells_some w size 0 a 0 c [] (by simp) (by simp)
 ·cases A with
  |none=>rfl
  |some a=>exact run_firstCells_some w.drew size 0 a 0 c [] (by simp) (by simp)
theorem ZtZ (hT:TyOK P T) {ys:List (List D)} {size tx b o cap:Nat} {g:Nat→Value} (hs:∀c∈ys,c.length=size) (hone:∀c∈ys,∀d∈c,d.one=true) (htx:ZkC T (some tx)=true)
  (hv:∀(i:Nat) e (j:Nat) d,ys[i]? =some e→e[j]? =some d→w.cell? ⟨b,o+(i*size+j),none⟩=some (g (i*size+j)))
  (hd:∀(i:Nat) e (j:Nat) d,ys[i]? =some e→e[j]? =some d→DRel w ok d (g (i*size+j))):
  ∃news,Src P size tx (.slice (some ⟨b,o,none⟩) ys.length cap) ys.length news w∧∀(i:Nat) e (j:Nat) d,ys[i]? =some e→e[j]? =some d→∃c,news[i*size+j]? =some c∧DRel w ok d c:=by
 have hk:=ZkS hT htx;have at_:∀k,k<ys.length*size→∃e d,ys[k / size]? =some e∧e[k%size]? =some d∧k=k / size*size+k%size:=by
  intro k hk;have hpos:0<size:=by
   rcases Nat.eq_zero_or_pos size with h0|h0
   ·subst h0;simp at hk
   ·exact h0
  have h1:k / size<ys.length:=Nat.div_lt_of_lt_mul (by rw [Nat.mul_comm];exact hk);have h2:k%size<size:=Nat.mod_lt _ hpos;have he:ys[k / size]? =some ys[k / size]:=List.getElem?_eq_getElem h1;have hel:=hs _ (List.mem_of_getElem? he);exact ⟨_,ys[k / size][k%size],he,List.getElem?_eq_getElem (by omega),by rw [Nat.mul_comm];exact (Nat.div_add_mod k size).symm⟩
 have hcell:∀(w2:World),(∀a,w2.cell? a=w.cell? a)→∀(j:Nat) v,((List.range (ys.length*size)).map g)[j]? =some v→w2.cell? ((⟨b,o,none⟩:Addr).add j)=some v:=by
  intro w2 hw2 j v hj;have hjl:j<ys.length*size:=by have:=(List.getElem?_eq_some_iff.1 hj).1;simpa using this
  simp [hjl] at hj;obtain ⟨e,d,h1,h2,h4⟩:=at_ j hjl;rw [hw2,Addr.add_mid];have:=hv _ e _ d h1 h2;rw [←h4] at this;rw [this,hj]
 refine ⟨(List.range (ys.length*size)).map g,⟨hk,fun _=>rfl,run_firstCells_some w size ys.length ⟨b,o,none⟩ _ cap _ (by simp) (hcell w fun _=>rfl),run_firstCells_some w.drew size ys.length ⟨b,o,none⟩ _ cap _ (by simp) (hcell w.drew fun _=>rfl),by simp,?_⟩,?_⟩
 ·intro u hu;obtain ⟨k,hk1,rfl⟩:=List.mem_map.1 hu;have hkl:k<ys.length*size:=by simpa using hk1
  obtain ⟨e,d,h1,h2,h4⟩:=at_ k hkl;have:=hd _ e _ d h1 h2;rw [←h4] at this;exact this.one (hone e (List.mem_of_getElem? h1) d (List.mem_of_getElem? h2))
 ·intro i e j d hi hj;have hel:=hs e (List.mem_of_getElem? hi);have hil:=(List.getElem?_eq_some_iff.1 hi).1;have hjl:=(List.getElem?_eq_some_iff.1 hj).1;have hin:(i+1)*size≤ys.length*size:=Nat.mul_le_mul_right _ hil;rw [Nat.add_mul] at hin;refine ⟨g (i*size+j),?_,hd i e j d hi hj⟩;have hlt:i*size+j<ys.length*size:=by omega
  simp [hlt]
theorem ZxX (hT:TyOK P T) (hk:HOK w ok lam H) {x:V} {xv:Value} {ys:List (List D)} {size tx:Nat} (hx:VRel w ok lam H x xv) (hy:slOf (toD H x)=some ys)
  (hs:∀c∈ys,c.length=size) (hone:∀c∈ys,∀d∈c,d.one=true) (htx:ZkC T (some tx)=true):
  ∃news,Src P size tx xv ys.length news w∧∀(i:Nat) e (j:Nat) d,ys[i]? =some e→e[j]? =some d→∃c,news[i*size+j]? =some c∧DRel w ok d c:=by
 cases x with
 |d y=>
  simp only [toD,cD] at hy;cases y with
  |sl zs=>
   simp [slOf] at hy;subst hy;cases hx.inv_d with
   |sl0 A c=>exact ⟨[],Zjl hT htx,by simp⟩
   |sl _ m b o cap g hc hm hb hl hv hd=>
    rcases zs with _|⟨z,zs⟩
    ·exact ⟨[],Zjl hT htx,by simp⟩
    ·have hms:m=size:=(hl z List.mem_cons_self).symm.trans (hs z List.mem_cons_self);subst hms;exact ZtZ hT hs hone htx hv hd
  |_=>simp [slOf] at hy
 |nils=>simp [toD,cD,slOf] at hy;subst hy;cases hx;exact ⟨[],Zjl hT htx,by simp⟩
 |own n off len=>
  simp only [toD,cD] at hy;cases hn:H n with
  |none=>simp [hn,slOf] at hy
  |some ob=>
   cases ob with
   |box c=>simp [hn,slOf] at hy
   |arr m xs=>
    simp [hn,slOf] at hy;subst hy;cases hx with|own _ hx=>
    obtain ⟨hle,hc⟩:=hx m xs hn;have hlen:((xs.drop off).take len).length=len:=by simp;omega
    rcases hc with ⟨_,rfl,rfl⟩|⟨b,o,cap,cs,Te,fr,g1,rfl,g3,g4,g5,g6⟩
    ·simp;exact ⟨[],Zjl hT htx⟩
    ·obtain ⟨hm,hmax,hobj⟩:=hk.obj n _ hn;rcases hobj with ⟨hz,_⟩|⟨b',cs',Te',fr',k1,k2,k3,k4,k5⟩
     ·rw [g1] at hz;cases hz
     ·obtain rfl:b=b':=by rw [g1] at k1;exact Option.some.inj k1
      by_cases hz:len=0
      ·subst hz;simp;exact ⟨[],Zjl hT htx⟩
      ·have ho:o=off*m:=g4.resolve_left (by omega);have hms:m=size:=by
        have hne:0<((xs.drop off).take len).length:=by omega
        have hmem:=List.getElem_mem hne;rw [←hs _ hmem];exact (hm _ (List.mem_of_mem_drop (List.mem_of_mem_take hmem))).symm
       subst hms;have hget:∀(i:Nat) e,((xs.drop off).take len)[i]? =some e→xs[off+i]? =some e:=by
        intro i e he;rw [List.getElem?_take] at he;split at he
        ·rwa [List.getElem?_drop] at he
        ·simp at he
       have:=ZtZ (w:=w) (ok:=ok) hT (b:=b) (o:=o) (cap:=cap) (g:=fun k=>cs'.getD (off*m+k) undef) hs hone htx (fun i e j d hi hj=>by
         obtain ⟨c,hc,_⟩:=k5 (off+i) e j d (hget i e hi) hj;rw [Nat.add_mul,Nat.add_assoc] at hc;rw [ho,cell_of_row w b _ cs' Te' fr' k2,hc];simp [Array.getD_eq_getD_getElem?,hc]) (fun i e j d hi hj=>by
         obtain ⟨c,hc,hd⟩:=k5 (off+i) e j d (hget i e hi) hj;rw [Nat.add_mul,Nat.add_assoc] at hc;simp only [Array.getD_eq_getD_getElem?,hc,Option.getD_some];exact hd)
       rw [hlen] at this ⊢;exact this
 |agg vs=>simp only [toD] at hy;cases hc:cDs H vs with
  |none=>simp [hc,slOf] at hy
  |some p=>simp [hc,slOf] at hy
 |clo f vs=>simp only [toD] at hy;cases hc:toPs H vs with
  |none=>simp [hc,slOf] at hy
  |some p=>simp [hc,slOf] at hy
 |_=>simp [toD,cD,slOf] at hy
theorem Zt9 (h:Ctx okIn U w0 p w ok lam H) {tb:Nat} (hf:Zey p tb) {n b m len cap:Nat} {xs xs':List (List D)} {o:Nat} {cs cs':Array Value} {Te:TypeId} {fr:Nat×Nat}
  (hn:H n=some (.arr m xs)) (hl:lam n=some b) (hb:w.heap[b]? =some (.cells cs Te fr)) (hb':w'.heap[b]? =some (.cells cs' Te fr)) (hcs:cs'.size=cs.size) (hother:∀k,k≠b→w'.heap[k]? =w.heap[k]?) (hsz:w'.heap.size=w.heap.size)
  (hmeta:w'.os=w.os∧w'.tape=w.tape∧w'.output=w.output) (hm:∀e∈xs',e.length=m) (hmax:xs'.length≤MAX) (hlen:len≤xs'.length) (hcap:len≤cap) (ho:cap=0∨o=0) (hcm:cap*m≤cs.size) (hxm:xs'.length*m≤cs.size)
  (hfz:cs.size≤LEN*m∧∀i,w.frozen? ⟨b,i,none⟩=false)
  (hel:∀(i:Nat) e (j:Nat) d,xs'[i]? =some e→e[j]? =some d→∃c,cs'[i*m+j]? =some c∧DRel w ok d c):
  Eff okIn U w0 p (pX p tb) w ok lam H (.own tb 0 len) (updF [(n,none),(tb,some (.arr m xs'))] H) w' (.slice (some ⟨b,o,none⟩) len cap) (fun k=>if k=tb then some b else lam k) ok:=by
 have hfr:¬p tb:=hf tb (Nat.le_refl _) (by omega);have hpn:p n:=h.dom n (by rw [hn];simp);have hnt:n≠tb:=fun e=>hfr (e▸hpn)
 have hnb:∀c,ok c→c≠b:=fun c hc e=>h.hok.dis n b (by rw [hn];simp) hl (e▸hc)
 let H':Heap:=fun k=>if tb=k then some (.arr m xs') else if n=k then none else H k
 have hup:updF [(n,none),(tb,some (.arr m xs'))] H=H':=rfl;have hne:∀a,a≠tb→H' a≠none→a≠n∧H a≠none∧H' a=H a:=fun a ha hna=>by
  simp only [H'] at hna ⊢;rw [if_neg (Ne.symm ha)] at hna ⊢;by_cases e:n=a
  ·rw [if_pos e] at hna;simp at hna
  ·rw [if_neg e] at hna ⊢;exact ⟨Ne.symm e,hna,rfl⟩
 have hpt:∀k,p k→k≠tb:=fun k hk e=>hfr (e▸hk)
 have hc:Chg p w ok lam H w' ok (fun k=>if k=tb then some b else lam k) H':=by
  refine ⟨fun c hc=>hother c (hnb c hc),fun _ h=>h,fun k hk _=>by rw [if_neg (hpt k hk)],fun k hk c' hc'=>?_,fun k hk m' xs2 hc'=>?_,fun k c cs2 T2 fr2 m2 xs2 hk hna h1 h2=>?_⟩
  ·have:=(hne k (hpt k hk) (by rw [hc'];simp)).2.2;exact ⟨c',this▸hc'⟩
  ·have:=(hne k (hpt k hk) (by rw [hc'];simp)).2.2;exact ⟨xs2,this▸hc',rfl⟩
  ·have hcb:c≠b:=fun e=>(hne k (hpt k hk) (by rw [hna];simp)).1 (h.hok.inj k n b (hne k (hpt k hk) (by rw [hna];simp)).2.1 (by rw [hn];simp) (e▸h1) hl)
   exact ⟨cs2,T2,fr2,by rw [hother c hcb];exact h2,rfl⟩
 rw [hup];refine ⟨⟨⟨fun a c d ha hc' h1 h2=>?_,fun a c ha h1=>?_,fun a c ha h1=>?_,fun c hc'=>hsz▸h.hok.oklt c hc',fun a x ha=>?_⟩,fun a x ha=>?_,fun a ha=>?_,h.okb,fun a c ha h1=>?_,by rw [hsz];exact h.size⟩,?_,.own Znb,⟨hmeta.1,hmeta.2.1,hmeta.2.2,by rw [hsz];exact Nat.le_refl _,fun k hk hu=>?_,ZmV hb' (fun c T f hc=>by rw [hb] at hc;cases hc;exact hcs) (fun k _ hk=>hother k hk)⟩,fun y v hg hv=>hc.v hv hg⟩
 ·by_cases e1:a=tb
  ·by_cases e2:c=tb
   ·rw [e1,e2]
   ·rw [if_pos e1] at h1;rw [if_neg e2] at h2;obtain ⟨k1,k2,_⟩:=hne c e2 hc';exact absurd (h.hok.inj c n d k2 (by rw [hn];simp) h2 (h1▸hl)) k1
  ·by_cases e2:c=tb
   ·rw [if_pos e2] at h2;rw [if_neg e1] at h1;obtain ⟨k1,k2,_⟩:=hne a e1 ha;exact absurd (h.hok.inj a n d k2 (by rw [hn];simp) h1 (h2▸hl)) k1
   ·rw [if_neg e1] at h1;rw [if_neg e2] at h2;exact h.hok.inj a c d (hne a e1 ha).2.1 (hne c e2 hc').2.1 h1 h2
 ·rw [hsz];by_cases e1:a=tb
  ·rw [if_pos e1] at h1;cases h1;exact h.hok.lt n b (by rw [hn];simp) hl
  ·rw [if_neg e1] at h1;exact h.hok.lt a c (hne a e1 ha).2.1 h1
 ·by_cases e1:a=tb
  ·rw [if_pos e1] at h1;cases h1;exact fun hb=>hnb b hb rfl
  ·rw [if_neg e1] at h1;exact h.hok.dis a c (hne a e1 ha).2.1 h1
 ·by_cases e1:a=tb
  ·subst e1;simp only [H',if_true] at ha;cases ha;refine ⟨hm,hmax,.inr ⟨b,cs',Te,fr,by simp,hb',⟨by rw [hcs];exact hfz.1,fun i=>?_⟩,by omega,fun i e j d hi hj=>?_⟩⟩
   ·have hf0:=hfz.2 i;simp only [World.frozen?,hb] at hf0;simp only [World.frozen?,hb'];exact hf0
   ·obtain ⟨c,h1,h2⟩:=hel i e j d hi hj;exact ⟨c,h1,h2.mono hc.hw hc.hok⟩
  ·obtain ⟨k1,k2,k3⟩:=hne a e1 (by rw [ha];simp);have ha':H a=some x:=k3▸ha;exact Zcn.chg hc (h.dom a k2) (by rw [ha];simp) (h.good a x ha') (fun c hc'=>hother c fun e=>k1 (h.hok.inj a n b k2 (by rw [hn];simp) (e▸hc') hl)) (h.hok.obj a x ha')
 ·by_cases e1:a=tb
  ·subst e1;simp only [H',if_true] at ha;cases ha;trivial
  ·obtain ⟨k1,k2,k3⟩:=hne a e1 (by rw [ha];simp);exact (h.good a x (k3▸ha)).mono fun _ h=> .inl h
 ·by_cases e1:a=tb
  ·rw [e1];exact Znb
  ·exact .inl (h.dom a (hne a e1 ha).2.1)
 ·by_cases e1:a=tb
  ·rw [if_pos e1] at h1;cases h1;exact h.ownb n b (by rw [hn];simp) hl
  ·rw [if_neg e1] at h1;exact h.ownb a c (hne a e1 ha).2.1 h1
 ·refine .own ⟨_,_,_,rfl⟩ fun m' xs2 hc'=>?_;simp only [H',if_true] at hc';cases hc';exact ⟨by omega,.inr ⟨b,o,cap,cs',Te,fr,by simp,rfl,hcap,ho.imp id (fun e=>by simp [e]),hb',by rw [hcs];simpa using hcm⟩⟩
 ·exact hother k fun e=>hu (e▸h.ownb n b (by rw [hn];simp) hl)
theorem ZrU (h:Ctx okIn U w0 p w ok lam H) {tb m:Nat} (hf:Zey p tb) (ls:List Nat):
  ∃lam' ok',Eff okIn U w0 p (pX p tb) w ok lam H (.own tb 0 0) (updF (ls.map (·,none)++[(tb,some (.arr m []))]) H) w (.slice none 0 0) lam' ok':=by
 obtain ⟨r1,r2⟩:=h.hok.rem (p:=p) ls h.good h.dom;have hc:Ctx okIn U w0 p w (okB ok lam H ls) lam (remF ls H):=⟨r1,fun k o ho=>h.good k o (ZdX ho).2,fun k hk=>by
  cases hh:remF ls H k with
  |none=>exact absurd hh hk
  |some o=>exact h.dom k (by rw [(ZdX hh).2];simp),fun c hc=>by
   rcases hc with hc|⟨k,_,hk1,hk2⟩
   ·exact h.okb c hc
   ·exact .inr (h.ownb k c hk1 hk2),fun k c hk hc=>by
   cases hh:remF ls H k with
   |none=>exact absurd hh hk
   |some o=>exact h.ownb k c (by rw [(ZdX hh).2];simp) hc,h.size⟩
 obtain ⟨lam',ok',he⟩:=ZjF (tb:=tb) (m:=m) hc hf;rw [ZcV,ZiQ];exact ⟨lam',ok',⟨he.ctx,he.val,he.vgood,he.fr,fun x v hg hv=>he.stab x v hg (r2.v hv hg)⟩⟩
theorem Zgs (h:Ctx okIn U w0 p w ok lam H) {tb:Nat} (hf:Zey p tb) (ls:List Nat) {ty tx rty e:Nat} {it ti:TI} {info infoe:TypeInfo} {z2 ze:Value} {de:TypeDesc} (ht:TyAt P ty it info (.slice e) z2) (hte:TyAt P e ti infoe de ze)
  {xv:Value} {ys:List (List D)} {news:List Value} (hsrc:Src P ti.size tx xv ys.length news w)
  (hels:∀(i:Nat) x (j:Nat) d,ys[i]? =some x→x[j]? =some d→∃c,news[i*ti.size+j]? =some c∧DRel w ok d c) (hfit:fits ti ys.length ys):
  Does P okIn U w0 p tb w ok lam H (.own tb 0 ys.length) (ls.map (·,none)++[(tb,some (.arr ti.size ys))]) (Builtin.append_ #[ty,tx] rty #[.slice none 0 0,xv]):=by
 obtain ⟨h0,h1,h2,h3,h4⟩:=hfit;cases hys:ys with
 |nil=>
  subst hys;obtain ⟨lam',ok',he⟩:=ZrU (m:=ti.size) h hf ls;refine ⟨.slice none 0 0,w,lam',ok',?_,he⟩;have hcells:(Builtin.firstCells ti.size 0 xv).run P w= .ok news.toArray w:=hsrc.cells;rcases hsrc.kind with ⟨e',hk⟩|hk<;>simp [Builtin.append_,ht.run_und,run_underlying hk,hte.run_sizeOf,hsrc.len,hcells]
 |cons y ys'=>
  rw [←hys];have hpos:0<ys.length:=by rw [hys];simp
  have hb:ys.length*infoe.bytes≤140737488355328:=by
   rw [hte.bytes];have:ys.length*ti.bytes≤4294967296*4096:=Nat.mul_le_mul h2 h1;omega
  have hrun:=run_append_grow_src (P:=P) w ty tx rty e infoe ze ht.und hte.inf hte.zero none 0 0 [] (by rfl) xv ys.length news (hte.size▸hsrc) (by omega) (by omega) (growslice_fits (by omega) (by simpa using hb));simp only [Nat.zero_add,List.nil_append] at hrun;have hge:=grownCap_ge w ys.length 0 e;have hgl:=grownCap_le_maxLen w ys.length 0 e (by unfold maxLen;omega);generalize grownCap w ys.length 0 e=cap at hrun hge hgl;have hzl:ze.cells.size=ti.size:=by have:=hte.zrel.1;rw [h0] at this;simpa using this.symm
  have hnl:=hsrc.newsLen;have hsize:(news.toArray++Builtin.zeroCells ze.cells (cap - ys.length)).size=cap*ti.size:=by
   simp only [Array.size_append,List.size_toArray,size_zeroCells,hzl,hnl,←Nat.add_mul];congr 1;omega
  obtain ⟨lam',ok',he⟩:=ZdL (w':=w.drew.alloc (.cells (news.toArray++Builtin.zeroCells ze.cells (cap - ys.length)) e)) h hf ls (m:=ti.size) (len:=ys.length) (cap:=cap) (xs:=ys)
   (cs:=news.toArray++Builtin.zeroCells ze.cells (cap - ys.length)) (Te:=e) (fr:=(0,0)) (fun b hb=>heap_alloc_old w.drew _ b hb) (by simp) ⟨rfl,rfl,rfl⟩ (heap_alloc_new w.drew _)
   ⟨by rw [hsize];exact Nat.mul_le_mul_right _ hgl,fun i=>frozen_of_row _ _ i _ e (heap_alloc_new w.drew _)⟩ h3 (by unfold MAX;omega) (Nat.le_refl _) hge (by omega) (by rw [hsize];exact Nat.mul_le_mul_right _ hge) (fun i x j d hi hj=>by
    obtain ⟨c,hc,hd⟩:=hels i x j d hi hj;have hlt:=(List.getElem?_eq_some_iff.1 hc).1;refine ⟨c,?_,hd.mono (fun _ _=>rfl) fun b hb=> .inl hb⟩;rw [Array.getElem?_append_left (by simpa using hlt)];simpa using hc)
  exact ⟨_,_,lam',ok',hrun,he⟩
theorem Zv4 (hT : TyOK P T) (h : Ctx okIn U w0 p w ok lam H) {tb : Nat} (hf : Zey p tb) {ty tx rty e : Nat} {it ti : TI} {info infoe : TypeInfo} {z2 ze : Value} {de : TypeDesc} (ht : TyAt P ty it info (.slice e) z2) (hte : TyAt P e ti infoe de ze)
    {s x : V} {sv xv : Value} {ys : List (List D)} (hs : VRel w ok lam H s sv) (hx : VRel w ok lam H x xv) (hy : slOf (toD H x) = some ys) (htx : ZkC T (some tx) = true) (hv : Zex H tb ti s ys (eqK v0 u0)) :
    Does P okIn U w0 p tb w ok lam H v0 u0 (Builtin.append_ #[ty, tx] rty #[sv, xv]) := by
  cases s with
  | ref => simp [Zex] at hv
  | el => simp [Zex] at hv
  | d => simp [Zex] at hv
  | agg => simp [Zex] at hv
  | tup => simp [Zex] at hv
  | clo => simp [Zex] at hv
  | dead => simp [Zex] at hv
  | own n off len =>
    cases off with
    | succ off => simp [Zex] at hv
    | zero =>
    simp only [Zex] at hv;cases hn : H n with
    | none => simp [hn, Zb2] at hv
    | some ob =>
      cases ob with
      | box c => simp [hn, Zb2] at hv
      | arr m xs =>
        simp only [hn, Zb2] at hv;obtain ⟨rfl, ⟨h0, h1, h2, h3, h4⟩, rfl, rfl⟩ := hv;obtain ⟨news, hsrc, hels⟩ := ZxX hT h.hok hx hy h3 h4 htx;obtain ⟨hm, hmax, hobj⟩ := h.hok.obj n _ hn;have hnl := hsrc.newsLen;have hzl : ze.cells.size = ti.size := by have := hte.zrel.1; rw [h0] at this; simpa using this.symm
        cases hs with | own _ hs =>
        obtain ⟨hle, hc⟩ := hs _ xs hn;have htl : (xs.take len).length = len := by simp; omega
        have hget : ∀ (i : Nat) x (j : Nat) d, (xs.take len ++ ys)[i]? = some x → x[j]? = some d → (i < len ∧ xs[i]? = some x) ∨ (len ≤ i ∧ ys[i - len]? = some x) := fun i x j d hi hj => by
          by_cases hlt : i < len
          · rw [List.getElem?_append_left (by omega), List.getElem?_take, if_pos hlt] at hi; exact .inl ⟨hlt, hi⟩
          · rw [List.getElem?_append_right (by omega), htl] at hi; exact .inr ⟨by omega, hi⟩
        have hmem : ∀ x ∈ xs.take len ++ ys, x.length = ti.size := fun x hx => by
          rcases List.mem_append.1 hx with hx | hx
          · exact hm x (List.mem_of_mem_take hx)
          · exact h3 x hx
        rcases hc with ⟨hln, rfl, rfl⟩ | ⟨b, o, cap, cs, Te, fr, g1, rfl, g3, g4, g5, g6⟩
        · have := Zgs h hf [n] ht hte (rty := rty) hsrc hels ⟨h0, h1, by omega, h3, h4⟩
          simpa using this
        · rcases hobj with ⟨hz, _⟩ | ⟨b', cs', Te', fr', k1, k2, k3, k4, k5⟩
          · rw [g1] at hz; cases hz
          obtain rfl : b = b' := by rw [g1] at k1; exact Option.some.inj k1
          rw [g5] at k2; cases k2;have hcellx : ∀ (i : Nat) x (j : Nat) d, xs[i]? = some x → x[j]? = some d → ∃ c, cs[i * ti.size + j]? = some c ∧ DRel w ok d c := k5;by_cases hroom : len + ys.length ≤ cap
          · have hcapm : (len + ys.length) * ti.size ≤ cap * ti.size := Nat.mul_le_mul_right _ hroom
            rw [Nat.add_mul] at hcapm;have g6' : cap * ti.size ≤ cs.size := by simpa using g6
            have hoz : cap = 0 ∨ o = 0 := g4.imp id (fun e => by simpa using e);have hin : cap = 0 → len = 0 ∧ ys.length = 0 := fun hz => by omega
            have hoff : ∀ j, j < news.length → o + len * ti.size + j < cs.size := fun j hj => by
              rcases hoz with hz | hz
              · obtain ⟨e1, e2⟩ := hin hz; rw [hnl, e2] at hj; simp at hj
              · subst hz; omega
            have hrun := run_append_room_src (P := P) w ty tx rty e infoe ht.und hte.inf b o len cap xv ys.length news (hte.size ▸ hsrc) hroom
              (fun j hj => by rw [hte.size, cell_of_row w b _ cs Te fr g5]; have := hoff j hj; simp [this]) (fun j hj => by rw [hte.size]; exact k3.2 _)
            rw [hte.size] at hrun;obtain ⟨m1, m2, m3, m4⟩ := ZdA b news (o + len * ti.size) w;have hnews0 : cap = 0 → news = [] := fun hz => List.eq_nil_of_length_eq_zero (by rw [hnl, (hin hz).2]; simp)
            obtain ⟨⟨csl⟩, hcsl⟩ : ∃ l, l = cs := ⟨cs, rfl⟩;have hheap : (w.setCells b (o + len * ti.size) news).heap[b]? = some (.cells ⟨if cap = 0 then csl else splice csl (len * ti.size) news⟩ Te fr) := by
              by_cases hz : cap = 0
              · rw [hnews0 hz, if_pos hz, hcsl]; exact g5
              · have ho : o = 0 := hoz.resolve_left hz
                subst ho;rw [if_neg hz, Nat.zero_add];refine ZcF b Te fr news (len * ti.size) w csl (by rw [hcsl]; exact g5) ?_;have : csl.length = cs.size := by rw [← hcsl]; simp
                omega
            have hcl : csl.length = cs.size := by rw [← hcsl]; simp
            have hE := Zt9 (w' := w.setCells b (o + len * ti.size) news) h hf (n := n) (b := b) (m := ti.size) (len := len + ys.length) (cap := cap) (xs := xs) (xs' := xs.take len ++ ys) (o := o) hn g1 g5 hheap
              (by by_cases hz : cap = 0
                  · rw [if_pos hz]; simpa using hcl
                  · rw [if_neg hz]; simp [splice]; omega) (fun k hk => Zbj b _ _ w k hk) m1 ⟨m2, m3, m4⟩ hmem (by simp [MAX]; omega) (by simp; omega) hroom hoz g6' (by simp; rw [Nat.min_eq_left (by omega), Nat.add_mul]; omega) k3
              (fun i x j d hi hj => by
                have hjl := (List.getElem?_eq_some_iff.1 hj).1;rw [hmem x (List.mem_of_getElem? hi)] at hjl;have hil := (List.getElem?_eq_some_iff.1 hi).1;simp at hil;have hz : ¬ cap = 0 := fun hz => by obtain ⟨e1, e2⟩ := hin hz; omega
                rw [if_neg hz];have hsg := ZhM (l := csl) (off := len * ti.size) (vs := news) (k := i * ti.size + j) (by omega);have hconv : (⟨splice csl (len * ti.size) news⟩ : Array Value)[i * ti.size + j]? = (splice csl (len * ti.size) news)[i * ti.size + j]? := by simp
                rw [hconv, hsg];rcases hget i x j d hi hj with ⟨hlt, hx⟩ | ⟨hge, hx⟩
                · have hb : (i + 1) * ti.size ≤ len * ti.size := Nat.mul_le_mul_right _ hlt
                  rw [Nat.add_mul] at hb;rw [if_pos (by omega)];obtain ⟨c, hc1, hc2⟩ := hcellx i x j d hx hj;exact ⟨c, by rw [← hcsl] at hc1; simpa using hc1, hc2⟩
                · have hb : len * ti.size ≤ i * ti.size := Nat.mul_le_mul_right _ hge
                  obtain ⟨c, hc1, hc2⟩ := hels (i - len) x j d hx hj;have hcn := (List.getElem?_eq_some_iff.1 hc1).1;have he : i * ti.size + j - len * ti.size = (i - len) * ti.size + j := by rw [Nat.sub_mul]; omega
                  rw [if_neg (by omega), if_pos (by omega), he];exact ⟨c, hc1, hc2⟩)
            exact ⟨_, _, _, _, hrun, hE⟩
          · have hb : (len + ys.length) * infoe.bytes ≤ 140737488355328 := by
              rw [hte.bytes];have : (len + ys.length) * ti.bytes ≤ 4294967296 * 4096 := Nat.mul_le_mul h2 h1;omega
            have g6' : cap * ti.size ≤ cs.size := by simpa using g6
            have hlm : len * ti.size ≤ cap * ti.size := Nat.mul_le_mul_right _ g3;obtain ⟨⟨csl⟩, hcsl⟩ : ∃ l, l = cs := ⟨cs, rfl⟩;have hcl : csl.length = cs.size := by rw [← hcsl]; simp
            have hold : (Builtin.firstCells infoe.size len (.slice (some ⟨b, o, none⟩) len cap)).run P w.drew = .ok (csl.take (len * ti.size)).toArray w.drew := by
              rw [hte.size];refine run_firstCells_some w.drew ti.size len ⟨b, o, none⟩ len cap _ (by simp; omega) fun j v hj => ?_
              rw [List.getElem?_take] at hj;split at hj
              · rename_i hjl
                have ho : o = 0 := by
                  rcases g4 with hz | hz
                  · have : len = 0 := by omega
                    subst this; simp at hjl
                  · simpa using hz
                subst ho;rw [Addr.add_mid, World.cell?_drew, cell_of_row w b _ cs Te fr g5, ← hcsl];simpa using hj
              · cases hj
            have hrun := run_append_grow_src (P := P) w ty tx rty e infoe ze ht.und hte.inf hte.zero (some ⟨b, o, none⟩) len cap (csl.take (len * ti.size)) hold xv ys.length news (hte.size ▸ hsrc) (by omega) (by omega) (growslice_fits (by omega) hb);have hge := grownCap_ge w (len + ys.length) cap e;have hgl := grownCap_le_maxLen w (len + ys.length) cap e (by unfold maxLen; omega);generalize grownCap w (len + ys.length) cap e = cap2 at hrun hge hgl;have hol : (csl.take (len * ti.size)).length = len * ti.size := by simp; omega
            have hsize : ((csl.take (len * ti.size) ++ news).toArray ++ Builtin.zeroCells ze.cells (cap2 - (len + ys.length))).size = cap2 * ti.size := by
              simp only [Array.size_append, List.size_toArray, List.length_append, size_zeroCells, hzl, hnl, hol, ← Nat.add_mul];congr 1; omega
            obtain ⟨lam', ok', he⟩ := ZdL (w' := w.drew.alloc (.cells ((csl.take (len * ti.size) ++ news).toArray ++ Builtin.zeroCells ze.cells (cap2 - (len + ys.length))) e)) h hf [n] (m := ti.size) (len := len + ys.length) (cap := cap2) (xs := xs.take len ++ ys)
              (cs := (csl.take (len * ti.size) ++ news).toArray ++ Builtin.zeroCells ze.cells (cap2 - (len + ys.length))) (Te := e) (fr := (0, 0)) (fun b hb => heap_alloc_old w.drew _ b hb) (by simp) ⟨rfl, rfl, rfl⟩ (heap_alloc_new w.drew _)
              ⟨by rw [hsize]; exact Nat.mul_le_mul_right _ hgl, fun i => frozen_of_row _ _ i _ e (heap_alloc_new w.drew _)⟩ hmem (by simp [MAX]; omega) (by simp; omega) hge (by omega) (by rw [hsize]; simp; rw [Nat.min_eq_left (by omega)]; exact Nat.mul_le_mul_right _ hge) (fun i x j d hi hj => by
                have hjl := (List.getElem?_eq_some_iff.1 hj).1;rw [hmem x (List.mem_of_getElem? hi)] at hjl;rcases hget i x j d hi hj with ⟨hlt, hx⟩ | ⟨hge2, hx⟩
                · have hb : (i + 1) * ti.size ≤ len * ti.size := Nat.mul_le_mul_right _ hlt
                  rw [Nat.add_mul] at hb;obtain ⟨c, hc1, hc2⟩ := hcellx i x j d hx hj;refine ⟨c, ?_, hc2.mono (fun _ _ => rfl) fun b hb => .inl hb⟩;rw [Array.getElem?_append_left (by simp; omega)];simp only [List.getElem?_toArray];rw [List.getElem?_append_left (by omega), List.getElem?_take, if_pos (by omega)];rw [← hcsl] at hc1; simpa using hc1
                · have hb : len * ti.size ≤ i * ti.size := Nat.mul_le_mul_right _ hge2
                  obtain ⟨c, hc1, hc2⟩ := hels (i - len) x j d hx hj;have hcn := (List.getElem?_eq_some_iff.1 hc1).1;have he : i * ti.size + j - len * ti.size = (i - len) * ti.size + j := by rw [Nat.sub_mul]; omega
                  refine ⟨c, ?_, hc2.mono (fun _ _ => rfl) fun b hb => .inl hb⟩;rw [Array.getElem?_append_left (by simp; omega)];simp only [List.getElem?_toArray];rw [List.getElem?_append_right (by omega), hol, he];exact hc1)
            exact ⟨_, _, lam', ok', hrun, he⟩
  | nils =>
    simp only [Zex] at hv;obtain ⟨hfit, rfl, rfl⟩ := hv;obtain ⟨news, hsrc, hels⟩ := ZxX hT h.hok hx hy hfit.2.2.2.1 hfit.2.2.2.2 htx;cases hs;have := Zgs h hf [] ht hte (rty := rty) hsrc hels hfit;simpa using this
end
end Go.Rx
namespace Go.Rx
open Go Go.RowKit
section
variable {P:Program} {T:Tys} {okIn U:Nat→Prop} {w0:World} {p:Nat→Prop} {w w':World} {ok ok':Nat→Prop} {lam lam':Nat→Option Nat} {H H':Heap} {v0:V} {u0:Upd} {cv:Value}
theorem ZiI {t tx ty e : TypeId} {i : TypeInfo} {z : Value} {k0 : IntKind} (ht : P.underlying t = some (.slice e)) (htx : P.underlying tx = some (.int k0)) (hi : P.info? e = some i) (hz : i.zero = some z) (hzs : z.cells.size = i.size)
    (k : IntKind) (n : Nat) (hn : 0 < n) (hn2 : n ≤ 4294967296) (hb : i.bytes ≤ 4096) :
    (Builtin.append_ #[t, tx] ty #[.slice none 0 0, .int k n]).run P w =
      .ok (.slice (some ⟨w.heap.size, 0, none⟩) n (grownCap w n 0 e)) (w.drew.alloc (.cells (Builtin.zeroCells z.cells n ++ Builtin.zeroCells z.cells (grownCap w n 0 e - n)) e)) := by
  have hw : IntKind.i64.wrap (n : Int) = n := by
    simp [IntKind.wrap, IntKind.bits, IntKind.signed];omega
  have hnn : ¬ (n = 0) := by omega
  have hfit : Builtin.nextslicecap n 0 * i.bytes ≤ 281474976710656 := growslice_fits (by omega) (by
    have : n * i.bytes ≤ 4294967296 * 4096 := Nat.mul_le_mul hn2 hb;omega)
  have h48 : ¬ (281474976710656 < Builtin.nextslicecap n 0 * i.bytes) := by omega
  have h48' : ¬ (281474976710656 < (n : Int) * (i.bytes : Int)) := by
    have : (n : Int) * (i.bytes : Int) ≤ 4294967296 * 4096 := Int.mul_le_mul (by omega) (by omega) (by omega) (by omega);omega
  have h63 : ¬ (9223372036854775807 < (n : Int)) := by omega
  have h0 : ¬ ((n : Int) < 0) := by omega
  by_cases hsz : i.size = 0
  · have hz0 : z.cells = #[] := by have : z.cells.size = 0 := by omega
                                   exact Array.eq_empty_of_size_eq_zero this
    simp [Builtin.append_, run_underlying ht, run_underlying htx, sizeOf, typeInfo, zeroValue, hi, hz, asInt, asIntOf, hw, h0, h48, h48', h63, hnn, hsz, Question.forced, newRow, grownCap, Builtin.firstCells, Builtin.zeroCells, hz0];have hr : Array.range 0 = #[] := rfl;simp [hr]
  · simp [Builtin.append_, run_underlying ht, run_underlying htx, sizeOf, typeInfo, zeroValue, hi, hz, asInt, asIntOf, hw, h0, h48, h48', h63, hnn, hsz, Question.forced, newRow, grownCap, Builtin.firstCells]
    intro hc;rcases Nat.mul_eq_zero.1 hc with hc | hc
    · omega
    · exact absurd hc hsz
theorem Zsg (hT:TyOK P T) {t:Nat} (h:Zgo T (some t)=true):∃k,P.underlying t=some (.int k):=by
 unfold Zgo at h;simp only at h;split at h
 ·rename_i a b k z hTt;obtain ⟨info,d,zz,ht⟩:=hT t _ hTt;have hk:=ht.kind;cases d<;>simp only [ZcS] at hk;subst hk;exact ⟨_,ht.und⟩
 ·cases h
theorem ZxM (hT:TyOK P T) (h:Ctx okIn U w0 p w ok lam H) {tb:Nat} (hf:Zey p tb) {ty tx rty e:Nat} {it ti:TI} {info infoe:TypeInfo} {z2 ze:Value} {de:TypeDesc} (ht:TyAt P ty it info (.slice e) z2) (hte:TyAt P e ti infoe de ze)
  {s x:V} {sv xv:Value} (hs:VRel w ok lam H s sv) (hx:VRel w ok lam H x xv) (htx:Zgo T (some tx)=true) (hv:appZ tb ti s x (eqK v0 u0)):
  Does P okIn U w0 p tb w ok lam H v0 u0 (Builtin.append_ #[ty,tx] rty #[sv,xv]):=by
 obtain ⟨k0,hk0⟩:=Zsg hT htx;unfold appZ at hv;split at hv
 ·rename_i k n;obtain ⟨h1,h2,h3,h4,rfl,rfl⟩:=hv;cases hs;cases hx.inv_d;obtain ⟨m,rfl⟩:∃m:Nat,n=m:=⟨n.toNat,by omega⟩;have hzl:ze.cells.size=ti.size:=by have:=hte.zrel.1;rw [h4] at this;simpa using this.symm
  have hzd:=Zjd hte.zrel;have hrun:=ZiI (P:=P) (w:=w) (ty:=rty) ht.und hk0 hte.inf hte.zero (by rw [hzl,hte.size]) k m (by omega) (by omega) (by rw [hte.bytes];exact h3);have hge:=grownCap_ge w m 0 e;have hgl:=grownCap_le_maxLen w m 0 e (by unfold maxLen;omega);generalize grownCap w m 0 e=cap at hrun hge hgl;have hsize:(Builtin.zeroCells ze.cells m++Builtin.zeroCells ze.cells (cap - m)).size=cap*ti.size:=by
   simp only [Array.size_append,size_zeroCells,hzl,←Nat.add_mul];congr 1;omega
  have hzc:ze.cells=⟨ze.cells.toList⟩:=rfl;obtain ⟨lam',ok',he⟩:=ZdL (w':=w.drew.alloc (.cells (Builtin.zeroCells ze.cells m++Builtin.zeroCells ze.cells (cap - m)) e)) h hf [] (m:=ti.size) (len:=m) (cap:=cap) (xs:=List.replicate m (Zf9 ti.zero))
   (cs:=Builtin.zeroCells ze.cells m++Builtin.zeroCells ze.cells (cap - m)) (Te:=e) (fr:=(0,0)) (fun b hb=>heap_alloc_old w.drew _ b hb) (by simp) ⟨rfl,rfl,rfl⟩ (heap_alloc_new w.drew _)
   ⟨by rw [hsize];exact Nat.mul_le_mul_right _ hgl,fun i=>frozen_of_row _ _ i _ e (heap_alloc_new w.drew _)⟩ (fun x hx=>by rw [List.eq_of_mem_replicate hx,Zdc,h4]) (by simp [MAX];omega) (by simp) hge (by omega) (by rw [hsize];simp;exact Nat.mul_le_mul_right _ hge) (fun i x j d hi hj=>by
    have hlt:i<m:=by have:=(List.getElem?_eq_some_iff.1 hi).1;simpa using this
    have hx:x=Zf9 ti.zero:=List.eq_of_mem_replicate (List.mem_of_getElem? hi);subst hx;obtain ⟨c,hc,hd⟩:=hzd.get hj;have hjl:j<ti.size:=by have:=(List.getElem?_eq_some_iff.1 hj).1;rw [Zdc,h4] at this;exact this
    refine ⟨c,?_,hd _ _⟩;have hb:i*ti.size+j<m*ti.size:=by
     have:(i+1)*ti.size≤m*ti.size:=Nat.mul_le_mul_right _ hlt;rw [Nat.add_mul] at this;omega
    rw [Array.getElem?_append_left (by rw [size_zeroCells,hzl];exact hb),←Array.getElem?_toList,hzc,ZeS (m:=ti.size) (by simpa using hzl) hb];rw [Nat.mul_comm,Nat.mul_add_mod,Nat.mod_eq_of_lt hjl];exact hc)
  exact ⟨_,_,lam',ok',hrun,by simpa using he⟩
 ·exact hv.elim
end
end Go.Rx
