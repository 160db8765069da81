/-
  Part E2: lemmas on an evaluator over plain data of the model's code, plain laws on lists and numbers, or contracts of functions of the program; each lemma names its conditions.
-/
import Derived.Test.YtflimjgjgligeaaGreatSE1
import Derived.ChangeKeysEq
import Derived.Laws.StructEq
import Derived.Lib.ConvBytes
import Derived.Laws.IdiomStrings
import Derived.Laws.Tables
import Derived.Deep.AppendSrc

set_option linter.unusedSimpArgs false
set_option linter.unusedVariables false
namespace Go.Rx
open Go Go.RowKit
def Rel2 {α β:Type} (R:α→β→Prop) (l:List α) (l':List β):Prop:=
 l.length=l'.length∧∀(i:Nat) x y,l[i]? =some x→l'[i]? =some y→R x y
theorem Rel2.nil {α β:Type} (R:α→β→Prop):Rel2 R [] []:=⟨rfl,by simp⟩
theorem Rel2.cons {α β:Type} {R:α→β→Prop} {x:α} {y:β} {l:List α} {l':List β} (h:R x y) (hl:Rel2 R l l'):Rel2 R (x::l) (y::l'):=by
 refine ⟨by simp [hl.1],fun i a b h1 h2=>?_⟩;cases i with
 |zero=>simp at h1 h2;subst h1;subst h2;exact h
 |succ i=>simp at h1 h2;exact hl.2 i a b h1 h2
theorem Rel2.uncons {α β:Type} {R:α→β→Prop} {x:α} {l:List α} {l':List β} (h:Rel2 R (x::l) l'):∃y m,l'=y::m∧R x y∧Rel2 R l m:=by
 cases l' with
 |nil=>simp [Rel2] at h
 |cons y m=>exact ⟨y,m,rfl,h.2 0 x y rfl rfl,by simpa using h.1,fun i a b h1 h2=>h.2 (i+1) a b (by simpa using h1) (by simpa using h2)⟩
theorem Rel2.nil_left {α β:Type} {R:α→β→Prop} {l':List β} (h:Rel2 R [] l'):l'=[]:=by
 cases l' with
 |nil=>rfl
 |cons y m=>simp [Rel2] at h
theorem Rel2.mono {α β:Type} {R S:α→β→Prop} {l:List α} {l':List β} (h:Rel2 R l l') (hrs:∀x y,x∈l→R x y→S x y):Rel2 S l l':=
 ⟨h.1,fun i x y h1 h2=>hrs x y (List.mem_of_getElem? h1) (h.2 i x y h1 h2)⟩
theorem Rel2.drop {α β:Type} {R:α→β→Prop} {l:List α} {l':List β} (h:Rel2 R l l') (n:Nat):Rel2 R (l.drop n) (l'.drop n):=
 ⟨by simp [h.1],fun i x y h1 h2=>h.2 (n+i) x y (by simpa using h1) (by simpa using h2)⟩
theorem Rel2.take {α β:Type} {R:α→β→Prop} {l:List α} {l':List β} (h:Rel2 R l l') (n:Nat):Rel2 R (l.take n) (l'.take n):=by
 refine ⟨by simp [h.1],fun i x y h1 h2=>?_⟩;rw [List.getElem?_take] at h1 h2;split at h1
 ·simp_all;exact h.2 i x y h1 h2
 ·simp at h1
theorem Rel2.append {α β:Type} {R:α→β→Prop} {l m:List α} {l' m':List β} (h:Rel2 R l l') (h2:Rel2 R m m'):Rel2 R (l++m) (l'++m'):=by
 induction l generalizing l' with
 |nil=>rw [h.nil_left];exact h2
 |cons x l ih=>obtain ⟨y,t,rfl,hxy,ht⟩:=h.uncons;exact Rel2.cons hxy (ih ht)
theorem Rel2.map {α β γ:Type} {R:α→β→Prop} {S:γ→β→Prop} {l:List α} {l':List β} (f:α→γ) (h:Rel2 R l l') (hf:∀x y,x∈l→R x y→S (f x) y):Rel2 S (l.map f) l':=by
 refine ⟨by simp [h.1],fun i x y h1 h2=>?_⟩;rw [List.getElem?_map] at h1;cases hx:l[i]? with
 |none=>simp [hx] at h1
 |some a=>simp [hx] at h1;subst h1;exact hf a y (List.mem_of_getElem? hx) (h.2 i a y hx h2)
theorem Rel2.get {α β:Type} {R:α→β→Prop} {l:List α} {l':List β} (h:Rel2 R l l') {i:Nat} {x:α} (hx:l[i]? =some x):∃y,l'[i]? =some y∧R x y:=by
 have hi:i<l'.length:=by rw [←h.1];exact (List.getElem?_eq_some_iff.1 hx).1
 exact ⟨l'[i],List.getElem?_eq_getElem hi,h.2 i x _ hx (List.getElem?_eq_getElem hi)⟩
theorem Rel2.get' {α β:Type} {R:α→β→Prop} {l:List α} {l':List β} (h:Rel2 R l l') {i:Nat} {y:β} (hy:l'[i]? =some y):∃x,l[i]? =some x∧R x y:=by
 have hi:i<l.length:=by rw [h.1];exact (List.getElem?_eq_some_iff.1 hy).1
 exact ⟨l[i],List.getElem?_eq_getElem hi,h.2 i _ y (List.getElem?_eq_getElem hi) hy⟩
def ZcS:TypeDesc→TK→Prop
 | .struct fs,.struct l=>fs.toList.map (fun f=>(f.offset,f.type))=l
 | .slice e,.slice e'=>e=e'
 | .int k,.int k'=>k=k'
 | .string,.str=>True
 | .bool,.bool=>True
 | .pointer _,.ptr=>True
 |d,.other=>d.isRow=false∧(∀e,d≠ .slice e)∧(∀k,d≠ .int k)∧d≠ .string
 |_,_=>False
def Z.rel:Z→Value→Prop
 | .d x,v=>∀w ok,DRel w ok x v
 | .nils _,v=>v= .slice none 0 0
structure TyAt (P:Program) (t:Nat) (i:TI) (info:TypeInfo) (d:TypeDesc) (z:Value):Prop where
 inf:P.info? t=some info
 size:info.size=i.size
 bytes:info.bytes=i.bytes
 und:P.underlying t=some d
 kind:ZcS d i.kind
 zero:info.zero=some z
 zrel:Rel2 Z.rel i.zero z.cells.toList
 zone:∀x∈i.zero,∀y,x= .d y→y.one=true
 eqs:∀fs,d= .struct fs→P.stoodInHeld t=false∧P.eqGuardType P.depth t=false∧∀f∈fs.toList,f.name≠ "_"
def TyOK (P:Program) (T:Tys):Prop:=∀t i,T t=some i→∃info d z,TyAt P t i info d z
section
variable {P:Program} {w:World} {t:Nat} {i:TI} {info:TypeInfo} {d:TypeDesc} {z:Value}
theorem TyAt.run_sizeOf (h:TyAt P t i info d z):(sizeOf t).run P w= .ok i.size w:=by
 simp [sizeOf,typeInfo,h.inf,h.size]
theorem TyAt.run_und (h:TyAt P t i info d z):(underlying t).run P w= .ok d w:=run_underlying h.und w
theorem TyAt.run_zero (h:TyAt P t i info d z):(zeroValue t).run P w= .ok z w:=by
 simp [zeroValue,typeInfo,h.inf,h.zero]
theorem Ze7 {l:List (Nat×Nat)} (h:ZcS d (.struct l)):∃fs,d= .struct fs∧fs.toList.map (fun f=>(f.offset,f.type))=l:=by
 cases d<;>simp [ZcS] at h;exact ⟨_,rfl,h⟩
theorem Zbl {e:Nat} (h:ZcS d (.slice e)):d= .slice e:=by
 cases d<;>simp [ZcS] at h;subst h;rfl
theorem Zf0 {k:IntKind} (h:ZcS d (.int k)):d= .int k:=by
 cases d<;>simp [ZcS] at h;subst h;rfl
theorem ZdN (h:ZcS d .str):d= .string:=by cases d<;>simp [ZcS] at h;rfl
def TK.isRow:TK→Bool
 | .struct _=>true
 |_=>false
theorem Zln {k:TK} (h:ZcS d k):d.isRow=k.isRow:=by
 cases k<;>cases d<;>first|rfl|(simp [ZcS,TypeDesc.isRow] at h;done)|(simp [ZcS,TypeDesc.isRow] at h ⊢;simp [TK.isRow];done)
theorem TyAt.run_isAgg (h:TyAt P t i info d z):(isAgg t).run P w= .ok i.kind.isRow w:=by
 have:=Zln h.kind;unfold isAgg;rw [Sem.run_bind,h.run_und,←this];cases d<;>rfl
end
theorem ZdV {P:Program} {T:Tys} (hT:TyOK P T) {t:Nat} (h:0<ZaN T t):∃i info d z,T t=some i∧TyAt P t i info d z∧ZaN T t=i.size:=by
 unfold ZaN at h ⊢;cases hi:T t with
 |none=>simp [hi] at h
 |some i=>obtain ⟨info,d,z,ha⟩:=hT t i hi;exact ⟨i,info,d,z,rfl,ha,rfl⟩
theorem Zhm {T:Tys} {t:Nat} {i:TI} (h:T t=some i):Zf1 T t=i.kind.isRow:=by
 unfold Zf1;rw [h];obtain ⟨a,b,k,z⟩:=i;cases k<;>rfl
theorem Zc7 {T:Tys} {t e:Nat} (h:Zca T t=some e):∃i,T t=some i∧i.kind= .slice e:=by
 unfold Zca at h;split at h
 ·rename_i a b e' z hi;simp at h;subst h;exact ⟨_,hi,rfl⟩
 ·simp at h
section
variable {w:World} {ok:Nat→Prop} {lam:Nat→Option Nat} {H:Heap}
theorem ZoZ {ds:List D} {v:Value} (h:DRel w ok (.agg ds) v):∃cs,v= .agg ⟨cs⟩∧Rel2 (DRel w ok) ds cs:=by
 cases h with|agg _ vs hl hd=>exact ⟨vs,rfl,hl,hd⟩
theorem DRel.one {x:D} {v:Value} (h:DRel w ok x v) (h1:x.one=true):v.oneCell'=true:=by
 cases h<;>first|rfl|(simp [D.one] at h1)
theorem VRel.one {x:V} {v:Value} (h:VRel w ok lam H x v) (h1:x.one=true):v.oneCell'=true:=by
 cases h with
 |d h=>exact h.one h1
 |ref h2=>obtain ⟨A,rfl⟩:=h2;rfl
 |el h2=>obtain ⟨A,rfl⟩:=h2;rfl
 |own h2=>obtain ⟨A,l,c,rfl⟩:=h2;rfl
 |nils=>rfl
 |agg=>simp [V.one] at h1
 |tup=>simp [V.one] at h1
 |clo=>rfl
 |dead=>simp [V.one] at h1
end
end Go.Rx
namespace Go.Rx
open Go Go.RowKit
section
variable {P:Program} {T:Tys} {w:World} {ok:Nat→Prop} {lam:Nat→Option Nat} {H:Heap} {q:Nat→Prop}
def eqK (v0:V) (u0:Upd):OK:=fun v u=>v=v0∧u=u0
theorem VRel.mkAgg {cs:List V} {vs:List Value} (h:Rel2 (VRel w ok lam H) cs vs):VRel w ok lam H (.agg cs) (.agg ⟨vs⟩):= .agg h.1 h.2
theorem VRel.mkTup {cs:List V} {vs:List Value} (h:Rel2 (VRel w ok lam H) cs vs):VRel w ok lam H (.tup cs) (.tuple ⟨vs⟩):= .tup h.1 h.2
theorem VRel.inv_agg {cs:List V} {v:Value} (h:VRel w ok lam H (.agg cs) v):∃vs,v= .agg ⟨vs⟩∧Rel2 (VRel w ok lam H) cs vs:=by
 cases h with|agg hl hd=>exact ⟨_,rfl,hl,hd⟩
theorem VRel.inv_tup {cs:List V} {v:Value} (h:VRel w ok lam H (.tup cs) v):∃vs,v= .tuple ⟨vs⟩∧Rel2 (VRel w ok lam H) cs vs:=by
 cases h with|tup hl hd=>exact ⟨_,rfl,hl,hd⟩
theorem VRel.inv_d {x:D} {v:Value} (h:VRel w ok lam H (.d x) v):DRel w ok x v:=by
 cases h with|d h=>exact h
theorem ZjJ {t:Nat} {i:TI} {info:TypeInfo} {d:TypeDesc} {z:Value} (ht:TyAt P t i info d z) (hTt:T t=some i) {b o off:Nat} {cells:List V} {vs:List Value}
  (hr:Rel2 (VRel w ok lam H) (cells.drop off) vs) (hc:w.rangeAt b o vs) (hs:i.size≤vs.length) (hp:0<i.size) (hone:(Zf1 T t||ZaN T t==1)=true):
  ∃cv,(Instr.loadAt t (.pointer (some ⟨b,o,none⟩))).run P w= .ok cv w∧VRel w ok lam H (ZgF T t cells off) cv∧((∀v∈cells,ZaJ q v)→ZaJ q (ZgF T t cells off)):=by
 have hsz:ZaN T t=i.size:=by simp [ZaN,hTt]
 have hst:=Zhm hTt;cases hk:i.kind.isRow with
 |true=>
  refine ⟨.agg ⟨vs.take i.size⟩,?_,?_,?_⟩
  ·have:=run_loadAt_mid (P:=P) w b o t (vs.take i.size) d (fun j v hj=>by
    rw [List.getElem?_take] at hj;split at hj
    ·exact hc j v hj
    ·simp at hj) ht.und (by rw [Zln ht.kind,hk]) (by simp [ht.inf,ht.size];omega)
   exact this
  ·simp only [ZgF,hst,hk,cond_true,hsz];exact VRel.mkAgg (hr.take i.size)
  ·intro hg;simp only [ZgF,hst,hk,cond_true];exact .agg fun v hv=>hg v (List.mem_of_mem_drop (List.mem_of_mem_take hv))
 |false=>
  have h1:i.size=1:=by simpa [hst,hk,hsz] using hone
  cases vs with
  |nil=>simp at hs;omega
  |cons v vs=>
   obtain ⟨x,hx,hxv⟩:=hr.get' (i:=0) rfl;refine ⟨v,?_,?_,?_⟩
   ·have hcell:=hc 0 v rfl;simp only [Nat.add_zero] at hcell;simp [Instr.loadAt,Instr.sureAddr,loadVar,ht.run_isAgg,hk,hcell]
   ·simp only [ZgF,hst,hk,cond_false];cases hd:cells.drop off with
    |nil=>simp [hd] at hx
    |cons y l=>simp [hd] at hx;subst hx;exact hxv
   ·intro hg;simp only [ZgF,hst,hk,cond_false];cases hd:cells.drop off with
    |nil=>exact .dead
    |cons y l=>exact hg y (List.mem_of_mem_drop (i:=off) (by rw [hd];exact List.mem_cons_self))
theorem Zki (hk:HOK w ok lam H) {n off:Nat} {cells:List V} (hn:H n=some (.box cells)):
  ∃b cs T,lam n=some b∧w.heap[b]? =some (.cells ⟨cs⟩ T (0,0))∧Rel2 (VRel w ok lam H) cells cs∧w.rangeAt b off (cs.drop off):=by
 obtain ⟨b,⟨cs⟩,T,h1,h2,h3,h4⟩:=hk.obj n _ hn;refine ⟨b,cs,T,h1,h2,⟨by simpa using h3,fun i x y hx hy=>h4 i x y hx (by simpa using hy)⟩,fun j v hj=>?_⟩;rw [cell_of_row w b (off+j) ⟨cs⟩ T (0,0) h2];simpa using hj
theorem Zih {xs:List D} {f:Nat→Value} (h:∀(j:Nat) d,xs[j]? =some d→DRel w ok d (f j)):
  Rel2 (DRel w ok) xs ((List.range xs.length).map f):=by
 refine ⟨by simp,fun i x y hx hy=>?_⟩;have hi:=(List.getElem?_eq_some_iff.1 hx).1;simp [hi] at hy;subst hy;exact h i x hx
theorem Rel2.dV {xs:List D} {vs:List Value} (h:Rel2 (DRel w ok) xs vs):Rel2 (VRel w ok lam H) (xs.map .d) vs:=
 Rel2.map _ h fun _ _ _ hr=> .d hr
theorem Zha {b o n:Nat} {f:Nat→Value} (h:∀j,j<n→w.cell? ⟨b,o+j,none⟩=some (f j)):w.rangeAt b o ((List.range n).map f):=by
 intro j v hj;rw [List.getElem?_map] at hj;cases hx:(List.range n)[j]? with
 |none=>simp [hx] at hj
 |some a=>
  have hlt:=(List.getElem?_eq_some_iff.1 hx).1;simp at hlt;simp [hx] at hj;rw [List.getElem?_range hlt] at hx;simp at hx;subst hx;subst hj;exact h j hlt
theorem Zm8 {b o j:Nat} {vs:List Value} (h:w.rangeAt b o vs):w.rangeAt b (o+j) (vs.drop j):=by
 intro k v hv;rw [List.getElem?_drop] at hv;rw [Nat.add_assoc];exact h (j+k) v hv
theorem Zv1 (hk:HOK w ok lam H) {n m i:Nat} {xs:List (List D)} (hn:H n=some (.arr m xs)) (hi:i<xs.length):
  ∃b cs T fr vs,lam n=some b∧w.heap[b]? =some (.cells cs T fr)∧(lget xs i).length=m∧Rel2 (DRel w ok) (lget xs i) vs∧w.rangeAt b (i*m) vs:=by
 obtain ⟨hm,hmax,hc⟩:=hk.obj n _ hn;have hx:xs[i]? =some (lget xs i):=by simp [lget,List.getD,hi]
 rcases hc with ⟨_,h⟩|⟨b,cs,T,fr,h1,h2,h3,h4,h5⟩
 ·subst h;simp at hi
 ·have hcell:∀j,w.cell? ⟨b,i*m+j,none⟩=cs[i*m+j]? :=fun j=>cell_of_row w b _ cs T fr h2
  refine ⟨b,cs,T,fr,(List.range (lget xs i).length).map fun j=>cs.getD (i*m+j) undef,h1,h2,hm _ (List.mem_of_getElem? hx),?_,?_⟩
  ·refine Zih fun j d hd=>?_;obtain ⟨c,hc,hr⟩:=h5 i _ j d hx hd;simpa [Array.getD_eq_getD_getElem?,hc] using hr
  ·refine Zha fun j hj=>?_;obtain ⟨c,hc,hr⟩:=h5 i _ j (lget xs i)[j] hx (List.getElem?_eq_getElem hj);rw [hcell,hc];simp [Array.getD_eq_getD_getElem?,hc]
theorem ZhZ (q:Nat→Prop) (l:List D):∀v∈l.map V.d,ZaJ q v:=by
 intro v hv;obtain ⟨x,_,rfl⟩:=List.mem_map.1 hv;exact .d x
theorem Zld (hT:TyOK P T) (hk:HOK w ok lam H) {t:Nat} {p:V} {pv:Value} (hp:VRel w ok lam H p pv) {v0:V} {u0:Upd} (h:Zcy T H t p (eqK v0 u0)):
  ∃cv,(Instr.loadAt t pv).run P w= .ok cv w∧u0=[]∧VRel w ok lam H v0 cv∧((∀n o,H n=some o→Zgg q o)→ZaJ q v0):=by
 cases p with
 |ref n off=>
  simp only [Zcy] at h;cases hn:H n with
  |none=>simp [hn,ZjB] at h
  |some ob=>
   cases ob with
   |arr m xs=>simp [hn,ZjB] at h
   |box cells=>
    simp only [hn,ZjB] at h;obtain ⟨⟨hs,hpos,hone⟩,rfl,rfl⟩:=h;obtain ⟨i,info,d,z,hTt,ht,hsz⟩:=ZdV hT hpos;obtain ⟨b,cs,Te,h1,h2,h3,h4⟩:=Zki (off:=off) hk hn;cases hp with|ref _ hp=>
    obtain ⟨b',hb',rfl⟩:=hp _ hn;obtain rfl:b=b':=by rw [h1] at hb';exact Option.some.inj hb'
    have hlen:=h3.1;obtain ⟨cv,hr,hv,hg⟩:=ZjJ (q:=q) ht hTt (h3.drop off) h4 (by simp;omega) (by omega) hone;exact ⟨cv,hr,rfl,hv,fun hgo=>hg (hgo n _ hn)⟩
 |el n i j=>
  simp only [Zcy] at h;cases hn:H n with
  |none=>simp [hn,Zb2] at h
  |some ob=>
   cases ob with
   |box cells=>simp [hn,Zb2] at h
   |arr m xs=>
    simp only [hn,Zb2] at h;obtain ⟨hi,⟨hs,hpos,hone⟩,rfl,rfl⟩:=h;obtain ⟨it,info,d,z,hTt,ht,hsz⟩:=ZdV hT hpos;obtain ⟨b,cs,Te,fr,vs,h1,h2,h3,h4,h5⟩:=Zv1 hk hn hi;cases hp with|el _ hp=>
    obtain ⟨_,b',hb',rfl⟩:=hp m xs hn;obtain rfl:b=b':=by rw [h1] at hb';exact Option.some.inj hb'
    have hlen:=h4.1;obtain ⟨cv,hr,hv,hg⟩:=ZjJ (q:=q) (off:=j) (cells:=(lget xs i).map .d) ht hTt ((Rel2.dV h4).drop j) (Zm8 h5) (by simp;omega) (by omega) hone;exact ⟨cv,hr,rfl,hv,fun _=>hg (ZhZ q _)⟩
 |d x=>
  cases x with
  |ptr cs=>
   simp only [Zcy] at h;obtain ⟨⟨hs,hpos,hone⟩,rfl,rfl⟩:=h;obtain ⟨it,info,d,z,hTt,ht,hsz⟩:=ZdV hT hpos;cases hp.inv_d with|ptr _ b o f hb hv hd=>
   have hrel:=Zih (w:=w) (ok:=ok) (xs:=cs) (f:=f) hd;have hrange:w.rangeAt b o ((List.range cs.length).map f):=Zha fun j hj=>hv j cs[j] (List.getElem?_eq_getElem hj)
   obtain ⟨cv,hr,hv,hg⟩:=ZjJ (q:=q) (off:=0) (cells:=cs.map .d) (lam:=lam) (H:=H) ht hTt (by simpa using Rel2.dV hrel) hrange (by simp;omega) (by omega) hone;exact ⟨cv,hr,rfl,hv,fun _=>hg (ZhZ q _)⟩
  |_=>simp [Zcy] at h
 |_=>simp [Zcy] at h
end
end Go.Rx
namespace Go.Rx
open Go Go.RowKit
section
variable {P:Program} {T:Tys} {w:World} {ok:Nat→Prop} {lam:Nat→Option Nat} {H:Heap} {q:Nat→Prop} {v0:V} {u0:Upd}
def Zbn (P:Program) (w:World) (ok:Nat→Prop) (lam:Nat→Option Nat) (H:Heap) (q:Nat→Prop) (v0:V) (u0:Upd) (g:Prop) (s:Sem Value):Prop:=
 ∃cv,s.run P w= .ok cv w∧u0=[]∧VRel w ok lam H v0 cv∧(g→ZaJ q v0)
theorem Zhv {t f off ft:Nat} (hT:TyOK P T) (h:Zcq T t f=some (off,ft)):
  ∃i info fs z fld,T t=some i∧TyAt P t i info (.struct fs) z∧fs[f]? =some fld∧fld.offset=off∧fld.type=ft:=by
 unfold Zcq at h;split at h
 ·rename_i a b fs z hi;obtain ⟨info,d,zz,ht⟩:=hT t _ hi;obtain ⟨fl,rfl,hfl⟩:=Ze7 ht.kind;rw [←hfl,List.getElem?_map] at h;cases hx:fl.toList[f]? with
  |none=>simp [hx] at h
  |some fld=>simp [hx] at h;exact ⟨_,info,fl,zz,fld,hi,ht,by simpa using hx,h.1,h.2⟩
 ·simp at h
theorem ZgO {t f off ft:Nat} (hT:TyOK P T) (h:Zcq T t f=some (off,ft)) (hp:0<ZaN T ft) (b o:Nat):
  (Instr.fieldAt t (.pointer (some ⟨b,o,none⟩)) f).run P w= .ok (.pointer (some ⟨b,o+off,none⟩)) w:=by
 obtain ⟨i,info,fs,z,fld,hTt,ht,hf,rfl,rfl⟩:=Zhv hT h;obtain ⟨i2,info2,d2,z2,hT2,ht2,hs2⟩:=ZdV hT hp;have hne:i2.size≠0:=by omega
 have ha:(⟨b,o,none⟩:Addr).add fld.offset=⟨b,o+fld.offset,none⟩:=Addr.add_mid b o fld.offset;simp [Instr.fieldAt,ht.run_und,hf,Instr.sureAddr,fieldPlace,ht2.run_sizeOf,hne,ha]
theorem Zxp (hT:TyOK P T) {t f off ft:Nat} (hf:Zcq T t f=some (off,ft)) (hp:0<ZaN T ft) {x:V} {xv:Value} (hx:VRel w ok lam H x xv)
  (h:faVC H off x (eqK v0 u0)):Zbn P w ok lam H q v0 u0 (ZaJ q x) (Instr.fieldAt t xv f):=by
 cases x with
 |ref n o=>
  simp only [faVC] at h;cases hn:H n with
  |none=>simp [hn,ZjA] at h
  |some ob=>
   simp only [hn,ZjA] at h;obtain ⟨rfl,rfl⟩:=h;cases hx with|ref _ hx=>
   obtain ⟨b,hb,rfl⟩:=hx _ hn;exact ⟨_,ZgO hT hf hp b o,rfl,.ref ⟨_,rfl⟩ fun o' ho'=>⟨b,hb,rfl⟩,fun hg=>by cases hg with|ref hg=>exact .ref hg⟩
 |el n i j=>
  simp only [faVC] at h;cases hn:H n with
  |none=>simp [hn,Zb2] at h
  |some ob=>
   cases ob with
   |box c=>simp [hn,Zb2] at h
   |arr m xs=>
    simp only [hn,Zb2] at h;obtain ⟨rfl,rfl⟩:=h;cases hx with|el _ hx=>
    obtain ⟨hi,b,hb,rfl⟩:=hx _ _ hn;refine ⟨_,ZgO hT hf hp b _,rfl,.el ⟨_,rfl⟩ fun m' xs' ho'=>?_,fun hg=>by cases hg with|el hg=>exact .el hg⟩;rw [hn] at ho';cases ho';exact ⟨hi,b,hb,by rw [Nat.add_assoc]⟩
 |d x=>
  cases x with
  |ptr cs=>
   simp only [faVC] at h;obtain ⟨rfl,rfl⟩:=h;cases hx.inv_d with|ptr _ b o f' hb hv hd=>
   refine ⟨_,ZgO hT hf hp b o,rfl,.d (.ptr _ b (o+off) (fun j=>f' (off+j)) hb (fun j d hj=>?_) (fun j d hj=>?_)),fun _=> .d _⟩
   ·rw [List.getElem?_drop] at hj;rw [Nat.add_assoc];exact hv _ d hj
   ·rw [List.getElem?_drop] at hj;exact hd _ d hj
  |_=>simp [faVC] at h
 |_=>simp [faVC] at h
theorem Zpg (hT:TyOK P T) {t:Nat} {x i:V} {xv iv:Value} (hx:VRel w ok lam H x xv) (hi:VRel w ok lam H i iv)
  (h:Zb7 T H (Zca T t) x i (eqK v0 u0)):Zbn P w ok lam H q v0 u0 (ZaJ q x) (Instr.indexAt t xv iv):=by
 have key:∀e i' info' d' z' k n A len cap,Zca T t=some e→TyAt P e i' info' d' z'→iv= .int k n→xv= .slice (some A) len cap→0≤n→n<len→
   (Instr.indexAt t xv iv).run P w= .ok (.pointer (some (A.add (n.toNat*i'.size)))) w:=by
  intro e i' info' d' z' k n A len cap he hte hiv hxv h0 h1;obtain ⟨it,hTt,hkt⟩:=Zc7 he;obtain ⟨info,d,z,ht⟩:=hT t it hTt;have hd:d= .slice e:=Zbl (hkt▸ht.kind);subst hd hiv hxv;simp [Instr.indexAt,asIntOf,ht.run_und,h0,h1,hte.run_sizeOf]
 have hint:∀F:IntKind→Int→Prop,onInt i F→∃k n,i= .d (.int k n)∧iv= .int k n∧F k n:=by
  intro F hF;cases i with
  |d y=>cases y with
   |int k n=>cases hi.inv_d with|int=>exact ⟨k,n,rfl,rfl,hF⟩
   |_=>simp [onInt] at hF
  |_=>simp [onInt] at hF
 cases x with
 |d y=>
  cases y with
  |sl xs=>
   simp only [Zb7] at h;cases he:Zca T t with
   |none=>simp [he,Zab] at h
   |some e=>
    simp only [he,Zab] at h;obtain ⟨hkn,h⟩:=h;obtain ⟨k,n,rfl,rfl,h0,h1,h2,rfl,rfl⟩:=hint _ h;unfold Zeb at hkn;cases hTe:T e with
    |none=>simp [hTe] at hkn
    |some ie=>
     obtain ⟨infoe,de,ze,hte⟩:=hT e ie hTe;have hlt:n.toNat<xs.length:=by omega
     have hget:xs[n.toNat]? =some (lget xs n.toNat):=by simp [lget,List.getD,hlt]
     have hse:ZaN T e=ie.size:=by simp [ZaN,hTe]
     cases hx.inv_d with
     |sl0 A c=>simp at h1;omega
     |sl _ m b o cap f hc hm hb hl hv hd=>
      have hme:ie.size=m:=by rw [←hse,←h2];exact hl _ (List.mem_of_getElem? hget)
      refine ⟨_,key e ie infoe de ze k n _ _ _ he hte rfl rfl h0 h1,rfl,?_,fun _=> .d _⟩;rw [hme,Addr.add_mid];exact .d (.ptr _ b (o+n.toNat*m) (fun j=>f (n.toNat*m+j)) hb (fun j d hj=>by rw [Nat.add_assoc];exact hv _ _ j d hget hj) (fun j d hj=>hd _ _ j d hget hj))
  |_=>simp [Zb7] at h
 |own a off len=>
  simp only [Zb7] at h;cases he:Zca T t with
  |none=>simp [he,Zab] at h
  |some e=>
   simp only [he,Zab] at h;obtain ⟨hkn,h⟩:=h;obtain ⟨k,n,rfl,rfl,h⟩:=hint _ h;unfold Zeb at hkn;cases hTe:T e with
   |none=>simp [hTe] at hkn
   |some ie=>
    obtain ⟨infoe,de,ze,hte⟩:=hT e ie hTe;have hse:ZaN T e=ie.size:=by simp [ZaN,hTe]
    cases hn:H a with
    |none=>simp [hn,Zb2] at h
    |some ob=>
     cases ob with
     |box c=>simp [hn,Zb2] at h
     |arr m xs=>
      simp only [hn,Zb2] at h;obtain ⟨h0,h1,h2,h3,rfl,rfl⟩:=h;cases hx with|own _ hx=>
      obtain ⟨hle,hcase⟩:=hx m xs hn;rcases hcase with ⟨_,_,hz⟩|⟨b,o,cap,cs,Te,fr,g1,rfl,g3,g4,g5,g6⟩
      ·omega
      ·have ho:o=off*m:=g4.resolve_left (by omega);refine ⟨_,key e ie infoe de ze k n _ _ _ he hte rfl rfl h0 h1,rfl,.el ⟨_,rfl⟩ fun m' xs' hm'=>?_,fun hg=>by cases hg with|own hg=>exact .el hg⟩;rw [hn] at hm';cases hm';refine ⟨by omega,b,g1,?_⟩;rw [Addr.add_mid,ho,←hse,←h3,Nat.add_zero,Nat.add_mul]
 |_=>simp [Zb7] at h
theorem Zss (l:List UInt8) (a b:Nat):(⟨⟨l⟩⟩:ByteArray).extract a b=⟨⟨(l.take b).drop a⟩⟩:=by
 apply ByteArray.ext;rw [ByteArray.data_extract];apply Array.ext';rw [Array.toList_extract];simp [List.drop_take,List.extract]
theorem Zv2 (a b:List UInt8):(⟨⟨a⟩⟩:ByteArray)++⟨⟨b⟩⟩=⟨⟨a++b⟩⟩:=by
 apply ByteArray.ext;rw [ByteArray.data_append];simp
theorem ZhO (l:List UInt8):(⟨⟨l⟩⟩:ByteArray).size=l.length:=rfl
theorem ZoK (hT:TyOK P T) {t:Nat} (hs:Zhn (T t)=true) {x i:V} {xv iv:Value} (hx:VRel w ok lam H x xv) (hi:VRel w ok lam H i iv)
  (h:ZkA x i (eqK v0 u0)):Zbn P w ok lam H q v0 u0 True (Instr.index t xv iv):=by
 unfold ZkA at h;split at h
 ·rename_i s k n;obtain ⟨h0,h1,rfl,rfl⟩:=h;cases hx.inv_d with|str _ hm=>
  cases hi.inv_d with|int=>
  have hd:P.underlying t=some .string:=by
   unfold Zhn at hs;split at hs
   ·rename_i a b z hTt;obtain ⟨info,d,zz,ht⟩:=hT t _ hTt;have:=ZdN ht.kind;subst this;exact ht.und
   ·simp at hs
  have hlt:n.toNat<s.length:=by omega
  have hget:(⟨⟨s⟩⟩:ByteArray)[n.toNat]? =some (s.getD n.toNat 0):=by
   have:n.toNat<(⟨⟨s⟩⟩:ByteArray).size:=hlt;rw [getElem?_pos (⟨⟨s⟩⟩:ByteArray) n.toNat this];simp [List.getD,hlt];rfl
  refine ⟨_,?_,rfl,.d (.int .u8 _),fun _=> .d _⟩;simp [Instr.index,asIntOf,run_underlying hd,h0,hget]
 ·exact h.elim
theorem Zp2 {o:Option V} {ov:Option Value} {d:Int} {n:Int} (hr:match o,ov with|none,none=>True|some x,some xv=>VRel w ok lam H x xv|_,_=>False)
  (h:Zec o d=some n):(o=none∧ov=none∧n=d)∨∃k,ov=some (.int k n):=by
 unfold Zec at h;split at h
 ·rename_i d';cases ov with
  |none=>simp at h;exact .inl ⟨rfl,rfl,h.symm⟩
  |some _=>exact hr.elim
 ·cases ov with
  |none=>exact hr.elim
  |some xv=>
   simp at h;subst h;cases hr.inv_d with|int=>exact .inr ⟨_,rfl⟩
 ·simp at h
theorem Zc9 {k:IntKind} {i:Int} {y:Nat} {c:BoundsCode} (h0:0≤i) (h1:i≤y):(Instr.sliceBound (.int k i) y c).run P w= .ok i.toNat w:=by
 simp [Instr.sliceBound,asIntOf,h0,h1]
theorem ZcD {isS:Bool} {len cap:Nat} {lo hi:Option Value} {l h:Int} (hl:(lo=none∧l=0)∨∃k,lo=some (.int k l)) (hh:(hi=none∧h=len)∨∃k,hi=some (.int k h))
  (h0:0≤l) (h1:l≤h) (h2:h≤cap):(Instr.sliceBounds isS len cap lo hi none).run P w= .ok (l.toNat,h.toNat,cap) w:=by
 have hle:l≤(h.toNat:Int):=by omega
 have h3:0≤h:=by omega
 rcases hl with ⟨rfl,rfl⟩|⟨k,rfl⟩<;>rcases hh with ⟨rfl,rfl⟩|⟨k',rfl⟩
 ·simp [Instr.sliceBounds]
 ·simp only [Instr.sliceBounds,Sem.run_bind,Sem.run_pure,Result.andThen_ok,Zc9 h3 h2];rfl
 ·simp only [Instr.sliceBounds,Sem.run_bind,Sem.run_pure,Result.andThen_ok];rw [Zc9 h0 (by omega)];rfl
 ·simp only [Instr.sliceBounds,Sem.run_bind,Sem.run_pure,Result.andThen_ok,Zc9 h3 h2];rw [Option.isSome_none];simp only [Bool.false_eq_true,if_false];rw [Zc9 h0 hle];rfl
end
end Go.Rx
namespace Go.Rx
open Go Go.RowKit
section
variable {P:Program} {T:Tys} {w:World} {ok:Nat→Prop} {lam:Nat→Option Nat} {H:Heap} {q:Nat→Prop} {v0:V} {u0:Upd}
def ORel (w:World) (ok:Nat→Prop) (lam:Nat→Option Nat) (H:Heap):Option V→Option Value→Prop
 |none,none=>True
 |some x,some xv=>VRel w ok lam H x xv
 |_,_=>False
theorem ZjW (hT:TyOK P T) {t:Nat} (hs:Zhn (T t)=true):P.underlying t=some .string:=by
 unfold Zhn at hs;split at hs
 ·rename_i a b z hTt;obtain ⟨info,d,zz,ht⟩:=hT t _ hTt;have:=ZdN ht.kind;subst this;exact ht.und
 ·simp at hs
theorem Zdo {o:Option V} {ov:Option Value} {d n:Int} (hr:ORel w ok lam H o ov) (h:Zec o d=some n):(ov=none∧n=d)∨∃k,ov=some (.int k n):=by
 rcases Zp2 (o:=o) (ov:=ov) (by cases o<;>cases ov<;>exact hr) h with ⟨_,h1,h2⟩|h
 ·exact .inl ⟨h1,h2⟩
 ·exact .inr h
theorem ZoR (hT : TyOK P T) {t : Nat} {x : V} {xv : Value} {lo hi mx : Option V} {lov hiv mxv : Option Value}
    (hx : VRel w ok lam H x xv) (hlo : ORel w ok lam H lo lov) (hhi : ORel w ok lam H hi hiv) (hmx : ORel w ok lam H mx mxv)
    (h : ZaS T H t x lo hi mx (eqK v0 u0)) : Zbn P w ok lam H q v0 u0 (ZaJ q x) (Instr.sliceAt t xv lov hiv mxv) := by
  cases mx with
  | some y => cases x with
    | d z => cases z <;> simp [ZaS] at h
    | _ => simp [ZaS] at h
  | none =>
  obtain rfl : mxv = none := by cases mxv <;> simp_all [ORel]
  cases x with
  | ref => simp [ZaS] at h
  | el => simp [ZaS] at h
  | nils =>
    simp only [ZaS] at h;cases he : Zca T t with
    | none => simp [he, Zab] at h
    | some e =>
      simp only [he, Zab] at h;obtain ⟨hkn, h⟩ := h;cases hl : Zec lo 0 with
      | none => simp [hl] at h
      | some l =>
        cases hh : Zec hi 0 with
        | none => simp [hl, hh] at h
        | some hiN =>
          simp only [hl, hh] at h;obtain ⟨rfl, rfl, rfl, rfl⟩ := h;obtain ⟨it, hTt, hkt⟩ := Zc7 he;obtain ⟨info, d, z, ht⟩ := hT t it hTt;obtain rfl : d = .slice e := Zbl (hkt ▸ ht.kind);unfold Zeb at hkn;cases hTe : T e with
          | none => simp [hTe] at hkn
          | some ie =>
            obtain ⟨infoe, de, ze, hte⟩ := hT e ie hTe;cases hx;have hb := ZcD (P := P) (w := w) (isS := true) (len := 0) (cap := 0) (Zdo hlo hl) (Zdo hhi hh) (Int.le_refl _) (Int.le_refl _) (Int.le_refl _);refine ⟨.slice none 0 0, ?_, rfl, .nils, fun _ => .nils⟩;simp only [Instr.sliceAt, Sem.run_bind, ht.run_und, Result.andThen_ok, Instr.slice, hb, hte.run_sizeOf, Sem.run_pure];rfl
  | agg => simp [ZaS] at h
  | tup => simp [ZaS] at h
  | clo => simp [ZaS] at h
  | dead => simp [ZaS] at h
  | d y => cases y with
   | int => simp [ZaS] at h
   | bool => simp [ZaS] at h
   | agg => simp [ZaS] at h
   | ptr => simp [ZaS] at h
   | clo => simp [ZaS] at h
   | nilp => simp [ZaS] at h
   | und => simp [ZaS] at h
   | str s =>
    simp only [ZaS] at h;obtain ⟨hs, h⟩ := h;have hu := ZjW hT hs;cases hl : Zec lo 0 with
    | none => simp [hl, Zab] at h
    | some l =>
      cases hh : Zec hi s.length with
      | none => simp [hl, hh, Zab] at h
      | some hiN =>
        simp only [hl, hh, Zab] at h;obtain ⟨h0, h1, h2, rfl, rfl⟩ := h;cases hx.inv_d with | str _ hm =>
        have hb := ZcD (P := P) (w := w) (isS := false) (len := s.length) (cap := s.length) (Zdo hlo hl) (Zdo hhi hh) h0 h1 h2;refine ⟨.string ⟨⟨(s.take hiN.toNat).drop l.toNat⟩⟩, ?_, rfl, .d (.str _ (by simp; omega)), fun _ => .d _⟩;simp only [Instr.sliceAt, Sem.run_bind, run_underlying hu, Result.andThen_ok, Instr.slice, ZhO, hb, Option.isSome_none, Bool.false_eq_true, if_false, Sem.run_pure, Zss]
   | sl xs =>
    simp only [ZaS] at h;cases he : Zca T t with
    | none => simp [he, Zab] at h
    | some e =>
      simp only [he, Zab] at h;obtain ⟨hkn, hsz, h⟩ := h;cases hl : Zec lo 0 with
      | none => simp [hl] at h
      | some l =>
        cases hh : Zec hi xs.length with
        | none => simp [hl, hh] at h
        | some hiN =>
          simp only [hl, hh] at h;obtain ⟨h0, h1, h2, rfl, rfl⟩ := h;obtain ⟨it, hTt, hkt⟩ := Zc7 he;obtain ⟨info, d, z, ht⟩ := hT t it hTt;obtain rfl : d = .slice e := Zbl (hkt ▸ ht.kind);unfold Zeb at hkn;cases hTe : T e with
          | none => simp [hTe] at hkn
          | some ie =>
            obtain ⟨infoe, de, ze, hte⟩ := hT e ie hTe;have hse : ZaN T e = ie.size := by simp [ZaN, hTe]
            have run : ∀ A cap, xs.length ≤ cap → (Instr.sliceAt t (.slice A xs.length cap) lov hiv none).run P w =
                .ok (.slice (if cap = l.toNat then A else A.map (·.add (l.toNat * ie.size))) (hiN.toNat - l.toNat) (cap - l.toNat)) w := by
              intro A cap hcap;have hb := ZcD (P := P) (w := w) (isS := true) (len := xs.length) (cap := cap) (Zdo hlo hl) (Zdo hhi hh) h0 h1 (by omega);simp only [Instr.sliceAt, Sem.run_bind, ht.run_und, Result.andThen_ok, Instr.slice, hb, hte.run_sizeOf, Sem.run_pure]
            cases hx.inv_d with
            | sl0 A c =>
              refine ⟨_, run A c (by simp), rfl, ?_, fun _ => .d _⟩;have : hiN.toNat - l.toNat = 0 := by simp at h2; omega
              rw [this];simp only [List.take_nil, List.drop_nil];exact .d (.sl0 _ _)
            | sl _ m b o cap f hc hm hb hlm hv hd =>
              refine ⟨_, run _ cap hc, rfl, ?_, fun _ => .d _⟩;have hlen : ((xs.take hiN.toNat).drop l.toNat).length = hiN.toNat - l.toNat := by simp; omega
              by_cases hz : hiN.toNat - l.toNat = 0
              · rw [hz]
                have : (xs.take hiN.toNat).drop l.toNat = [] := List.eq_nil_of_length_eq_zero (by omega);rw [this];exact .d (.sl0 _ _)
              · have hne : ¬ cap = l.toNat := by omega
                rw [if_neg hne];have hmem : ∃ c, c ∈ xs := by cases xs with | nil => simp at h2; omega | cons c l => exact ⟨c, List.mem_cons_self⟩
                obtain ⟨c, hcm⟩ := hmem;have hme : ie.size = m := by rw [← hse, ← hsz c hcm]; exact hlm c hcm
                rw [← hlen, hme];simp only [Option.map_some, Addr.add_mid];have hget : ∀ (i : Nat) e, ((xs.take hiN.toNat).drop l.toNat)[i]? = some e → xs[l.toNat + i]? = some e := by
                  intro i e he;rw [List.getElem?_drop, List.getElem?_take] at he;split at he
                  · exact he
                  · simp at he
                refine .d (.sl _ m b (o + l.toNat * m) (cap - l.toNat) (fun k => f (l.toNat * m + k)) (by omega) (by omega) hb (fun e he => hlm e (List.mem_of_mem_take (List.mem_of_mem_drop he))) ?_ ?_)
                · intro i e j d hi hj
                  have := hv (l.toNat + i) e j d (hget i e hi) hj;rw [Nat.add_mul] at this;rw [Nat.add_assoc, ← Nat.add_assoc (l.toNat * m)];exact this
                · intro i e j d hi hj
                  have := hd (l.toNat + i) e j d (hget i e hi) hj;rw [Nat.add_mul, Nat.add_assoc] at this;exact this
  | own n off len =>
    simp only [ZaS] at h;cases he : Zca T t with
    | none => simp [he, Zab] at h
    | some e =>
      simp only [he, Zab] at h;cases hn : H n with
      | none => simp [hn, Zb2] at h
      | some ob =>
        cases ob with
        | box c => simp [hn, Zb2] at h
        | arr m xs =>
          simp only [hn, Zb2] at h;obtain ⟨hkn, hsz, h⟩ := h;cases hl : Zec lo 0 with
          | none => simp [hl] at h
          | some l =>
            cases hh : Zec hi len with
            | none => simp [hl, hh] at h
            | some hiN =>
              simp only [hl, hh] at h;obtain ⟨h0, h1, h2, rfl, rfl⟩ := h;obtain ⟨it, hTt, hkt⟩ := Zc7 he;obtain ⟨info, d, z, ht⟩ := hT t it hTt;obtain rfl : d = .slice e := Zbl (hkt ▸ ht.kind);unfold Zeb at hkn;cases hTe : T e with
              | none => simp [hTe] at hkn
              | some ie =>
                obtain ⟨infoe, de, ze, hte⟩ := hT e ie hTe;have hse : ZaN T e = ie.size := by simp [ZaN, hTe]
                have run : ∀ A cap, len ≤ cap → (Instr.sliceAt t (.slice A len cap) lov hiv none).run P w =
                    .ok (.slice (if cap = l.toNat then A else A.map (·.add (l.toNat * ie.size))) (hiN.toNat - l.toNat) (cap - l.toNat)) w := by
                  intro A cap hcap;have hb := ZcD (P := P) (w := w) (isS := true) (len := len) (cap := cap) (Zdo hlo hl) (Zdo hhi hh) h0 h1 (by omega);simp only [Instr.sliceAt, Sem.run_bind, ht.run_und, Result.andThen_ok, Instr.slice, hb, hte.run_sizeOf, Sem.run_pure]
                cases hx with | own _ hx =>
                obtain ⟨hle, hcase⟩ := hx m xs hn;have hgood : ZaJ q (V.own n off len) → ZaJ q (V.own n (off + l.toNat) (hiN.toNat - l.toNat)) := fun hg => by cases hg with | own hg => exact .own hg
                rcases hcase with ⟨g1, rfl, g3⟩ | ⟨b, o, cap, cs, Te, fr, g1, rfl, g3, g4, g5, g6⟩
                · subst g3
                  refine ⟨_, run none 0 (Nat.le_refl 0), rfl, .own ⟨_, _, _, rfl⟩ fun m' xs' hm' => ?_, hgood⟩;have hl0 : l.toNat = 0 := by omega
                  have hh0 : hiN.toNat = 0 := by omega
                  rw [hn] at hm'; cases hm';refine ⟨by omega, .inl ⟨g1, ?_, by omega⟩⟩;simp [hl0, hh0]
                · refine ⟨_, run _ cap g3, rfl, .own ⟨_, _, _, rfl⟩ fun m' xs' hm' => ?_, hgood⟩
                  rw [hn] at hm'; cases hm';refine ⟨by omega, .inr ?_⟩;by_cases hc : cap = l.toNat
                  · rw [if_pos hc]
                    refine ⟨b, o, cap - l.toNat, cs, Te, fr, g1, rfl, by omega, .inl (by omega), g5, ?_⟩;have : off + l.toNat + (cap - l.toNat) = off + cap := by omega
                    rw [this]; exact g6
                  · rw [if_neg hc]
                    have ho : o = off * m := g4.resolve_left (by omega);refine ⟨b, o + l.toNat * ie.size, cap - l.toNat, cs, Te, fr, g1, ?_, by omega, .inr ?_, g5, ?_⟩
                    · simp [Addr.add_mid]
                    · rw [ho, ← hse, ← hsz, Nat.add_mul]
                    · have : off + l.toNat + (cap - l.toNat) = off + cap := by omega
                      rw [this]; exact g6
end
end Go.Rx
namespace Go.Rx
open Go Go.RowKit
section
variable {P:Program} {T:Tys} {w:World} {ok:Nat→Prop} {lam:Nat→Option Nat} {H:Heap} {q:Nat→Prop} {v0:V} {u0:Upd}
theorem Zfk (l:List UInt8):(⟨⟨l⟩⟩:ByteArray).toList=l:=ByteArray.toList_eq _
theorem Zfd (a b:List UInt8):(Zax a b||a==b)= !Zax b a:=by
 unfold Zax;induction a generalizing b with
 |nil=>cases b<;>simp [Op.bytesLess]
 |cons x a ih=>
  cases b with
  |nil=>simp [Op.bytesLess]
  |cons y b=>
   have:=ih b;simp only [Op.bytesLess,List.cons_beq_cons];by_cases h1:x<y
   ·have h2:¬y<x:=by rw [UInt8.lt_iff_toNat_lt] at*;omega
    have h3:¬y=x:=by intro h;subst h;exact h2 h1
    simp [h1,h2,h3]
   ·by_cases h2:y<x
    ·have h3:¬x=y:=by intro h;subst h;exact h1 h2
     simp [h1,h2,h3]
    ·have h3:x=y:=by
      rw [UInt8.lt_iff_toNat_lt] at*;exact UInt8.toNat_inj.1 (by omega)
     subst h3;simp [h1];exact this
theorem Zs5 (a b:List UInt8):(!(Zax a b||a==b))=Zax b a:=by rw [Zfd];simp
def Zdy (op:BinOp) (t:Nat) (x y:Operand) (a b:Value):Sem Value:=do
 eqGuard op t x y a b
 binOp op t a b
theorem Zc6 {op:BinOp} {t:Nat} {x y:Operand} {a b:Value} (h1:¬(a= .nilIface)) (h2:∀c,a≠ .agg c):(eqGuard op t x y a b).run P w= .ok () w:=by
 unfold eqGuard;cases op<;>cases a<;>first|rfl|(exact absurd rfl h1)|(exact absurd rfl (h2 _))|(cases b<;>rfl)
theorem Zu4 {op:BinOp} {t:Nat} {x y:Operand} {k k':IntKind} {a b:Int} (hk:ZfC op=true∨k=k') (h:ZcP op k a b (eqK v0 u0)):
  Zbn P w ok lam H q v0 u0 True (Zdy op t x y (.int k a) (.int k' b)):=by
 have hg:(eqGuard op t x y (.int k a) (.int k' b)).run P w= .ok () w:=Zc6 (by simp) (by simp);unfold Zbn Zdy;cases op<;>simp only [ZcP] at h
 case add|sub|mul|and|or|xor=>
  obtain rfl:k=k':=hk.resolve_left (by simp [ZfC]);obtain ⟨rfl,rfl⟩:=h;refine ⟨.int k _,?_,rfl,.d (.int _ _),fun _=> .d _⟩;simp only [Sem.run_bind,hg,Result.andThen_ok,binOp,ne_eq,not_true_eq_false,if_false,Op.intArith,Op.intBits];rfl
 case eql|neq|lss|leq|gtr|geq=>
  obtain rfl:k=k':=hk.resolve_left (by simp [ZfC]);obtain ⟨rfl,rfl⟩:=h;refine ⟨.bool _,?_,rfl,.d (.bool _),fun _=> .d _⟩;simp only [Sem.run_bind,hg,Result.andThen_ok,binOp,ne_eq,not_true_eq_false,if_false,Op.intCmp];rfl
 case quo|rem=>
  obtain rfl:k=k':=hk.resolve_left (by simp [ZfC]);obtain ⟨hb,rfl,rfl⟩:=h;exact ⟨_,by simp only [Sem.run_bind,hg,Result.andThen_ok,binOp,ne_eq,not_true_eq_false,if_false,Op.intDiv,if_neg hb];rfl,rfl,.d (.int _ _),fun _=> .d _⟩
 case shl|shr=>
  obtain ⟨hb,rfl,rfl⟩:=h;have hn:¬b<0:=by omega
  exact ⟨_,by simp only [Sem.run_bind,hg,Result.andThen_ok,binOp,Op.shift,if_neg hn];rfl,rfl,.d (.int _ _),fun _=> .d _⟩
theorem ZtX {op:BinOp} {t:Nat} {x y:Operand} {a b:List UInt8} (h:Zg1 op a b (eqK v0 u0)):
  Zbn P w ok lam H q v0 u0 True (Zdy op t x y (.string ⟨⟨a⟩⟩) (.string ⟨⟨b⟩⟩)):=by
 have hg:(eqGuard op t x y (.string ⟨⟨a⟩⟩) (.string ⟨⟨b⟩⟩)).run P w= .ok () w:=Zc6 (by simp) (by simp);have hbin:∀o,o≠ .shl→o≠ .shr→binOp o t (.string ⟨⟨a⟩⟩) (.string ⟨⟨b⟩⟩)=Op.stringOp o ⟨⟨a⟩⟩ ⟨⟨b⟩⟩:=by
  intro o h1 h2;cases o<;>first|rfl|contradiction
 unfold Zbn Zdy;cases op<;>simp only [Zg1] at h
 case add=>
  obtain ⟨hl,rfl,rfl⟩:=h;refine ⟨.string ⟨⟨a++b⟩⟩,?_,rfl,.d (.str _ (by simpa using hl)),fun _=> .d _⟩;have:¬(((⟨⟨a⟩⟩:ByteArray).size+(⟨⟨b⟩⟩:ByteArray).size:Nat):Int)>IntKind.i64.max:=by
   rw [ZhO,ZhO];unfold LEN at hl;have:IntKind.i64.max=9223372036854775807:=rfl;omega
  simp only [Sem.run_bind,hg,Result.andThen_ok,hbin .add (by simp) (by simp),Op.stringOp,if_neg this,Zv2,Sem.run_pure]
 case eql|neq|lss|leq|gtr|geq=>
  obtain ⟨rfl,rfl⟩:=h;refine ⟨.bool _,?_,rfl,.d (.bool _),fun _=> .d _⟩;simp only [Sem.run_bind,hg,Result.andThen_ok];rw [hbin _ (by simp) (by simp)];simp only [Op.stringOp,Zfk,Sem.run_pure];first
   |rfl
   |(have e2:=Zs5 a b;unfold Zax at e2;rw [e2];rfl)
   |(have:=Zfd a b;unfold Zax at this;rw [this];rfl)
   |(congr 2;simp [BEq.beq];done)
   |(congr 2;by_cases hab:a=b<;>simp [hab])
end
end Go.Rx
namespace Go.Rx
open Go Go.RowKit
section
variable {P:Program} {T:Tys} {w:World} {ok:Nat→Prop} {lam:Nat→Option Nat} {H:Heap} {q:Nat→Prop} {v0:V} {u0:Upd}
theorem Zhl (hT:TyOK P T) {t:Nat} {k:TK} (h:Zgd T t=k) (hk:k≠ .other):∃i info d z,T t=some i∧i.kind=k∧TyAt P t i info d z:=by
 unfold Zgd at h;cases hi:T t with
 |none=>simp [hi] at h;exact absurd h.symm hk
 |some i=>simp [hi] at h;obtain ⟨info,d,z,ha⟩:=hT t i hi;exact ⟨i,info,d,z,rfl,h,ha⟩
theorem ZgP {op:BinOp} {t:Nat} {a b:Value} {r:Bool} (hr:(Op.equal t a b).run P w= .ok r w) (hn:binOp .eql t a b=(do pure (.bool (←Op.equal t a b)))) (hm:binOp .neq t a b=(do pure (.bool (!(←Op.equal t a b)))))
  (hg:∀x y op,(eqGuard op t x y a b).run P w= .ok () w) {x y:Operand} (h:Zj8 op r (eqK v0 u0)):Zbn P w ok lam H q v0 u0 True (Zdy op t x y a b):=by
 unfold Zbn Zdy;cases op<;>simp only [Zj8] at h
 case eql=>obtain ⟨rfl,rfl⟩:=h;exact ⟨.bool r,by simp [hg,hn,hr],rfl,.d (.bool _),fun _=> .d _⟩
 case neq=>obtain ⟨rfl,rfl⟩:=h;exact ⟨.bool (!r),by simp [hg,hm,hr],rfl,.d (.bool _),fun _=> .d _⟩
theorem ZkW {x:V} {xv:Value} {xs:List D} (hx:VRel w ok lam H x xv) (hs:scal x=some xs):∃cs,xv= .agg ⟨cs⟩∧Rel2 (DRel w ok) xs cs:=by
 cases x with
 |agg vs=>
  obtain ⟨cs,rfl,hr⟩:=hx.inv_agg;refine ⟨cs,rfl,?_⟩;simp only [scal] at hs;clear hx;induction vs generalizing xs cs with
  |nil=>rw [hr.nil_left];simp [Zl2] at hs;subst hs;exact Rel2.nil _
  |cons v vs ih=>
   obtain ⟨c,m,rfl,hvc,hm⟩:=hr.uncons;cases v with
   |d y=>
    simp only [Zl2] at hs;cases hq:Zl2 vs with
    |none=>simp [hq] at hs
    |some ys=>
     simp [hq] at hs;subst hs;exact Rel2.cons hvc.inv_d (ih hq _ hm)
   |_=>simp [Zl2] at hs
 |d y=>
  cases y with
  |agg ds=>simp [scal] at hs;subst hs;exact ZoZ hx.inv_d
  |_=>simp [scal] at hs
 |_=>simp [scal] at hs
theorem Zn0 (hT:TyOK P T) {dd:Nat} {ft:Nat} {x y:D} {xv yv:Value} {r:Bool} (hx:DRel w ok x xv) (hy:DRel w ok y yv) (h:eqT (Zgd T ft) x y=some r):
  (Op.equalIn (dd+1) ft xv yv).run P w= .ok r w∧∃i info d z,T ft=some i∧TyAt P ft i info d z∧i.kind.isRow=false:=by
 cases hk:Zgd T ft with
 |int k'=>
  obtain ⟨i,info,d,z,hi,hik,ha⟩:=Zhl hT hk (by simp);obtain rfl:=Zf0 (hik▸ha.kind);rw [hk] at h;cases x<;>cases y<;>simp only [eqT] at h<;>try (simp at h;done)
  rename_i k a k2 b;split at h
  ·rename_i hkk;subst hkk;cases hx;cases hy;simp at h;subst h;exact ⟨by rw [run_equalIn_int w dd ft _ _ _ _ ha.und];rfl,i,info,_,z,hi,ha,by rw [hik];rfl⟩
  ·simp at h
 |bool=>
  obtain ⟨i,info,d,z,hi,hik,ha⟩:=Zhl hT hk (by simp);rw [hk] at h;have hd:d= .bool:=by have:=ha.kind;rw [hik] at this;cases d<;>simp [ZcS] at this;rfl
  subst hd;cases x<;>cases y<;>simp only [eqT] at h<;>try (simp at h;done)
  cases hx;cases hy;simp at h;subst h;exact ⟨run_equalIn_bool' w dd ft _ _ ha.und,i,info,_,z,hi,ha,by rw [hik];rfl⟩
 |str=>
  obtain ⟨i,info,d,z,hi,hik,ha⟩:=Zhl hT hk (by simp);obtain rfl:=ZdN (hik▸ha.kind);rw [hk] at h;cases x<;>cases y<;>simp only [eqT] at h<;>try (simp at h;done)
  cases hx;cases hy;simp at h;subst h;refine ⟨?_,i,info,_,z,hi,ha,by rw [hik];rfl⟩;rw [run_equalIn_string w dd ft _ _ ha.und,Zfk,Zfk];congr 1;rw [Bool.eq_iff_iff];simp
 |_=>rw [hk] at h;simp [eqT] at h
theorem Zma {ft off:Nat} {cs:List Value} {c:Value} {i:TI} {info:TypeInfo} {d:TypeDesc} {z:Value} (ha:TyAt P ft i info d z) (hr:i.kind.isRow=false) (hc:cs[off]? =some c):
  (part ft ⟨cs⟩ off).run P w= .ok c w:=by
 have:(⟨cs⟩:Array Value)[off]? =some c:=by simpa using hc
 simp [part,ha.run_isAgg,hr,this]
theorem Zst (hT:TyOK P T) (dd:Nat) {xs ys:List D} {cs cs':List Value} (hx:Rel2 (DRel w ok) xs cs) (hy:Rel2 (DRel w ok) ys cs'):
  ∀(fs:List Go.Field) (r:Bool),eqFs T (fs.map fun f=>(f.offset,f.type)) xs ys=some r→(∀f∈fs,f.name≠ "_")→(Op.eqFields (dd+1) ⟨cs⟩ ⟨cs'⟩ fs).run P w= .ok r w:=by
 intro fs;induction fs with
 |nil=>intro r h _;simp [eqFs] at h;subst h;simp [Op.eqFields]
 |cons f fs ih=>
  intro r h hn;simp only [List.map_cons,eqFs] at h;cases ha:eqO (Zgd T f.type) xs[f.offset]? ys[f.offset]? with
  |none=>rw [ha] at h;simp [andO] at h
  |some a=>
   cases hb:eqFs T (fs.map fun f=>(f.offset,f.type)) xs ys with
   |none=>rw [ha,hb] at h;simp [andO] at h
   |some b=>
    rw [ha,hb] at h;simp [andO] at h;subst h;cases hxo:xs[f.offset]? with
    |none=>rw [hxo] at ha;simp [eqO] at ha
    |some x=>
     cases hyo:ys[f.offset]? with
     |none=>rw [hxo,hyo] at ha;simp [eqO] at ha
     |some y=>
      rw [hxo,hyo] at ha;simp only [eqO] at ha;obtain ⟨c,hc,hxc⟩:=hx.get hxo;obtain ⟨c',hc',hyc⟩:=hy.get hyo;obtain ⟨hrun,i,info,d,z,hi,hta,hrow⟩:=Zn0 hT (dd:=dd) hxc hyc ha;have hname:=hn f List.mem_cons_self;simp only [Op.eqFields,ne_eq,hname,not_false_eq_true,if_true,Sem.run_bind,Zma (w:=w) hta hrow hc,Zma (w:=w) hta hrow hc',Result.andThen_ok,hrun];cases a with
      |false=>simp
      |true=>simp only [Bool.not_true,Bool.false_eq_true,if_false,Bool.true_and];exact ih b hb fun f hf=>hn f (List.mem_cons_of_mem _ hf)
theorem ZvW (hT : TyOK P T) {op : BinOp} {t : Nat} {xo yo : Operand} {x y : V} {xv yv : Value} (hx : VRel w ok lam H x xv) (hy : VRel w ok lam H y yv)
    (h : ZgT T t op x y (eqK v0 u0)) : Zbn P w ok lam H q v0 u0 True (Zdy op t xo yo xv yv) := by
  have agg : ∀ {x y : V}, VRel w ok lam H x xv → VRel w ok lam H y yv → Zkp T op (Zgd T t) (scal x) (scal y) (eqK v0 u0) → Zbn P w ok lam H q v0 u0 True (Zdy op t xo yo xv yv) := by
    intro x y hx hy h;cases hk : Zgd T t with
    | struct fs =>
      cases hsx : scal x with
      | none => rw [hk, hsx] at h; simp [Zkp] at h
      | some xs =>
        cases hsy : scal y with
        | none => rw [hk, hsx, hsy] at h; simp [Zkp] at h
        | some ys =>
          rw [hk, hsx, hsy] at h;simp only [Zkp] at h;cases he : eqFs T fs xs ys with
          | none => rw [he] at h; simp [Zab] at h
          | some r =>
            rw [he] at h;simp only [Zab] at h;obtain ⟨cs, rfl, hrx⟩ := ZkW hx hsx;obtain ⟨cs', rfl, hry⟩ := ZkW hy hsy;obtain ⟨i, info, d, z, hi, hik, ha⟩ := Zhl hT hk (by simp);obtain ⟨fl, rfl, hfl⟩ := Ze7 (hik ▸ ha.kind);obtain ⟨e1, e2, e3⟩ := ha.eqs fl rfl;have hfo : P.fieldsOf t = fl := by unfold Program.fieldsOf; rw [ha.und]
            refine ZgP (r := r) ?_ rfl rfl (fun x y op => run_eqGuard_agg w op t x y _ _ e2) h;unfold Op.equal;rw [show Op.maxDepth = 9998 + 1 + 1 from rfl, run_equalIn_agg w (9998 + 1) t _ _ (by rw [hfo]; exact ha.und) e1, hfo];exact Zst hT 9998 hrx hry fl.toList r (by rw [hfl]; exact he) e3
    | _ => rw [hk] at h; simp [Zkp] at h
  have ptr : ∀ {r : Bool} {a b : Value}, Zl9 op r (Zgd T t) (eqK v0 u0) → (∀ e, (P.underlying t = some (.pointer e) → (Op.equal t a b).run P w = .ok r w)) → (∀ c, a ≠ .agg c) → a ≠ .nilIface →
      binOp .eql t a b = (do pure (.bool (← Op.equal t a b))) → binOp .neq t a b = (do pure (.bool (!(← Op.equal t a b)))) → Zbn P w ok lam H q v0 u0 True (Zdy op t xo yo a b) := by
    intro r a b h hr h1 h2 h3 h4;cases hk : Zgd T t with
    | ptr =>
      rw [hk] at h;obtain ⟨i, info, d, z, hi, hik, ha⟩ := Zhl hT hk (by simp);have hd : ∃ e, d = .pointer e := by have := ha.kind; rw [hik] at this; cases d <;> simp [ZcS] at this; exact ⟨_, rfl⟩
      obtain ⟨e, rfl⟩ := hd;exact ZgP (hr e ha.und) h3 h4 (fun x y op => Zc6 h2 h1) h
    | _ => rw [hk] at h; simp [Zl9] at h
  have pnil : ∀ (e : Nat) (a b : Option Addr) (r : Bool), P.underlying t = some (.pointer e) → (a = none ∧ b.isNone = r ∨ b = none ∧ a.isSome = true ∧ r = false) → (Op.equal t (.pointer a) (.pointer b)).run P w = .ok r w := by
    intro e a b r hu hab;have key : ∀ n, (Op.equalIn (n + 1) t (.pointer a) (.pointer b)).run P w = .ok r w := by
     intro n;simp only [Op.equalIn, Sem.run_bind, run_underlying hu, Result.andThen_ok];rcases hab with ⟨rfl, rfl⟩ | ⟨rfl, h2, rfl⟩
     · cases b <;> rfl
     · cases a with
       | none => simp at h2
       | some a => rfl
    exact key 9999
  unfold ZgT at h;split at h
  · cases hx.inv_d; cases hy.inv_d; exact Zu4 h.1 h.2
  · cases hx.inv_d; cases hy.inv_d; exact ZtX h
  · rename_i a b
    cases he : eqT (Zgd T t) (.bool a) (.bool b) with
    | none => rw [he] at h; simp [Zab] at h
    | some r =>
      rw [he] at h;have hr := (Zn0 (P := P) hT (dd := 9999) hx.inv_d hy.inv_d he).1;cases hx.inv_d; cases hy.inv_d;exact ZgP (r := r) hr rfl rfl (fun x y op => Zc6 (by simp) (by simp)) h
  · cases hx.inv_d; cases hy.inv_d
    exact ptr h (fun e hu => pnil e _ _ _ hu (.inl ⟨rfl, rfl⟩)) (by simp) (by simp) rfl rfl
  · cases hx.inv_d with | ptr _ b o f hb hv hd =>
    cases hy.inv_d;exact ptr h (fun e hu => pnil e _ _ _ hu (.inr ⟨rfl, rfl, rfl⟩)) (by simp) (by simp) rfl rfl
  · exact agg hx hy h
end
end Go.Rx
namespace Go.Rx
open Go Go.RowKit
section
variable {P:Program} {T:Tys} {w:World} {ok:Nat→Prop} {lam:Nat→Option Nat} {H:Heap} {q:Nat→Prop} {v0:V} {u0:Upd}
def okB (ok:Nat→Prop) (lam:Nat→Option Nat) (H:Heap) (ls:List Nat) (b:Nat):Prop:=ok b∨∃n∈ls,H n≠none∧lam n=some b
theorem ZcI {b:Nat} {ls ms:List Nat} (h:okB ok lam H ls b) (hs:∀n∈ls,n∈ms):okB ok lam H ms b:=by
 rcases h with h|⟨n,hn,h1,h2⟩
 ·exact .inl h
 ·exact .inr ⟨n,hs n hn,h1,h2⟩
theorem Zms (hk:HOK w ok lam H) {x:V} {v:Value} {d:D} {ls:List Nat} (hx:VRel w ok lam H x v) (h:cD H x=some (d,ls)):DRel w (okB ok lam H ls) d v:=by
 cases x with
 |d y=>simp [cD] at h;obtain ⟨rfl,rfl⟩:=h;exact hx.inv_d.mono (fun _ _=>rfl) fun b hb=> .inl hb
 |nils=>simp [cD] at h;obtain ⟨rfl,rfl⟩:=h;cases hx;exact .sl0 _ _
 |own n off len=>
  simp only [cD] at h;cases hn:H n with
  |none=>simp [hn] at h
  |some ob=>
   cases ob with
   |box c=>simp [hn] at h
   |arr m xs=>
    simp [hn] at h;obtain ⟨rfl,rfl⟩:=h;cases hx with|own _ hx=>
    obtain ⟨hle,hc⟩:=hx m xs hn;rcases hc with ⟨_,rfl,rfl⟩|⟨b,o,cap,cs,Te,fr,g1,rfl,g3,g4,g5,g6⟩
    ·simp;exact .sl0 _ _
    ·obtain ⟨hm,hmax,hobj⟩:=hk.obj n _ hn;rcases hobj with ⟨hz,_⟩|⟨b',cs',Te',fr',k1,k2,k3,k4,k5⟩
     ·rw [g1] at hz;cases hz
     ·obtain rfl:b=b':=by rw [g1] at k1;exact Option.some.inj k1
      have hlen:((xs.drop off).take len).length=len:=by simp;omega
      by_cases hz:len=0
      ·subst hz;simp;exact .sl0 _ _
      ·have ho:o=off*m:=g4.resolve_left (by omega);have hget:∀(i:Nat) e,((xs.drop off).take len)[i]? =some e→xs[off+i]? =some e:=by
        intro i e he;rw [List.getElem?_take] at he;split at he
        ·rwa [List.getElem?_drop] at he
        ·simp at he
       have:=DRel.sl (w:=w) (ok:=okB ok lam H [n]) ((xs.drop off).take len) m b o cap (fun k=>cs'.getD (off*m+k) undef) (by omega) (by unfold LEN;unfold MAX at*;omega) (.inr ⟨n,by simp,by rw [hn];simp,g1⟩)
        (fun e he=>hm e (List.mem_of_mem_drop (List.mem_of_mem_take he))) (fun i e j d hi hj=>by
         obtain ⟨c,hc,_⟩:=k5 (off+i) e j d (hget i e hi) hj;rw [Nat.add_mul,Nat.add_assoc] at hc;rw [ho,cell_of_row w b _ cs' Te' fr' k2,hc];simp [Array.getD_eq_getD_getElem?,hc]) (fun i e j d hi hj=>by
         obtain ⟨c,hc,hd⟩:=k5 (off+i) e j d (hget i e hi) hj;rw [Nat.add_mul,Nat.add_assoc] at hc;simp only [Array.getD_eq_getD_getElem?,hc,Option.getD_some];exact hd.mono (fun _ _=>rfl) fun b hb=> .inl hb)
       rw [hlen] at this;exact this
 |_=>simp [cD] at h
theorem ZhA (hk:HOK w ok lam H):∀ {xs:List V} {vs:List Value} {ds:List D} {ls:List Nat},Rel2 (VRel w ok lam H) xs vs→cDs H xs=some (ds,ls)→Rel2 (DRel w (okB ok lam H ls)) ds vs:=by
 intro xs;induction xs with
 |nil=>intro vs ds ls h hc;rw [h.nil_left];simp [cDs] at hc;rw [hc.1];exact Rel2.nil _
 |cons x xs ih=>
  intro vs ds ls h hc;obtain ⟨v,m,rfl,hv,hm⟩:=h.uncons;simp only [cDs] at hc;cases h1:cD H x with
  |none=>simp [h1] at hc
  |some p=>
   obtain ⟨y,l⟩:=p;cases h2:cDs H xs with
   |none=>simp [h1,h2] at hc
   |some p2=>
    obtain ⟨ys,l2⟩:=p2;simp [h1,h2] at hc;obtain ⟨rfl,rfl⟩:=hc;exact Rel2.cons ((Zms hk hv h1).mono (fun _ _=>rfl) fun b hb=>ZcI hb (by simp;intro n hn;exact .inl hn))
     ((ih hm h2).mono fun _ _ _ hd=>hd.mono (fun _ _=>rfl) fun b hb=>ZcI hb (by simp;intro n hn;exact .inr hn))
theorem ZtP (hk:HOK w ok lam H) {x:V} {v:Value} {d:D} {ls:List Nat} (hx:VRel w ok lam H x v) (h:toP H x=some (d,ls)):DRel w (okB ok lam H ls) d v:=by
 cases x with
 |ref n off=>
  simp only [toP] at h;cases hn:H n with
  |none=>simp [hn] at h
  |some ob=>
   cases ob with
   |arr m xs=>simp [hn] at h
   |box cells=>
    cases hc:cDs H cells with
    |none=>simp [hn,hc] at h
    |some p=>
     obtain ⟨ds,l⟩:=p;simp [hn,hc] at h;obtain ⟨rfl,rfl⟩:=h;cases hx with|ref _ hx=>
     obtain ⟨b,hb,rfl⟩:=hx _ hn;obtain ⟨b',cs,Te,h1,h2,h3,h4⟩:=Zki (off:=off) hk hn;obtain rfl:b=b':=by rw [h1] at hb;exact (Option.some.inj hb).symm
     have hr:=(ZhA hk h3 hc).drop off;have hlen:=hr.1;refine .ptr _ b off (fun j=>(cs.drop off).getD j undef) (.inr ⟨n,by simp,by rw [hn];simp,h1⟩) (fun j d hj=>?_) (fun j d hj=>?_)
     ·obtain ⟨c,hc',_⟩:=hr.get hj;rw [h4 j c hc'];simp only [List.getD,hc',Option.getD_some]
     ·obtain ⟨c,hc',hd⟩:=hr.get hj;have:(cs.drop off).getD j undef=c:=by simp only [List.getD,hc',Option.getD_some]
      rw [this];exact hd.mono (fun _ _=>rfl) fun b hb=>ZcI hb (by simp;intro n hn;exact .inr hn)
 |_=>exact Zms hk hx (by simpa only [toP] using h)
theorem ZrA (hk:HOK w ok lam H):∀ {xs:List V} {vs:List Value} {ds:List D} {ls:List Nat},Rel2 (VRel w ok lam H) xs vs→toPs H xs=some (ds,ls)→Rel2 (DRel w (okB ok lam H ls)) ds vs:=by
 intro xs;induction xs with
 |nil=>intro vs ds ls h hc;rw [h.nil_left];simp [toPs] at hc;rw [hc.1];exact Rel2.nil _
 |cons x xs ih=>
  intro vs ds ls h hc;obtain ⟨v,m,rfl,hv,hm⟩:=h.uncons;simp only [toPs] at hc;cases h1:toP H x with
  |none=>simp [h1] at hc
  |some p=>
   obtain ⟨y,l⟩:=p;cases h2:toPs H xs with
   |none=>simp [h1,h2] at hc
   |some p2=>
    obtain ⟨ys,l2⟩:=p2;simp [h1,h2] at hc;obtain ⟨rfl,rfl⟩:=hc;exact Rel2.cons ((ZtP hk hv h1).mono (fun _ _=>rfl) fun b hb=>ZcI hb (by simp;intro n hn;exact .inl hn))
     ((ih hm h2).mono fun _ _ _ hd=>hd.mono (fun _ _=>rfl) fun b hb=>ZcI hb (by simp;intro n hn;exact .inr hn))
theorem ZgZ (hk:HOK w ok lam H) {x:V} {v:Value} {d:D} {ls:List Nat} (hx:VRel w ok lam H x v) (h:toD H x=some (d,ls)):DRel w (okB ok lam H ls) d v:=by
 cases x with
 |agg vs=>
  obtain ⟨cs,rfl,hr⟩:=hx.inv_agg;simp only [toD] at h;cases hc:cDs H vs with
  |none=>simp [hc] at h
  |some p=>
   obtain ⟨ds,l⟩:=p;simp [hc] at h;obtain ⟨rfl,rfl⟩:=h;have:=ZhA hk hr hc;exact .agg _ _ this.1 this.2
 |clo f vs=>
  cases hx with|clo hl hd=>
  simp only [toD] at h;cases hc:toPs H vs with
  |none=>simp [hc] at h
  |some p=>
   obtain ⟨ds,l⟩:=p;simp [hc] at h;obtain ⟨rfl,rfl⟩:=h;have:=ZrA hk ⟨hl,hd⟩ hc;exact .clo _ _ _ this.1 this.2
 |_=>exact Zms hk hx (by simpa only [toD] using h)
theorem V.cells_sound {x:V} {v:Value} {cs:List V} (hx:VRel w ok lam H x v) (h:x.cells=some cs):Rel2 (VRel w ok lam H) cs v.cells.toList:=by
 have single:∀x:V,(∀c,v≠ .agg c)→VRel w ok lam H x v→Rel2 (VRel w ok lam H) [x] v.cells.toList:=by
  intro x hv hx;have:v.cells= #[v]:=by cases v<;>first|rfl|exact absurd rfl (hv _)
  rw [this];exact Rel2.cons hx (Rel2.nil _)
 cases x with
 |agg vs=>simp [V.cells] at h;subst h;obtain ⟨c,rfl,hr⟩:=hx.inv_agg;exact hr
 |d y=>
  cases y with
  |agg ds=>simp [V.cells] at h;subst h;obtain ⟨c,rfl,hr⟩:=ZoZ hx.inv_d;exact Rel2.dV hr
  |und=>simp [V.cells] at h
  |_=>simp [V.cells] at h;subst h;refine single _ ?_ hx;cases hx.inv_d<;>simp
 |dead=>simp [V.cells] at h
 |tup=>simp [V.cells] at h
 |ref n off=>simp [V.cells] at h;subst h;refine single _ ?_ hx;cases hx with|ref h1=>obtain ⟨A,rfl⟩:=h1;simp
 |el n i j=>simp [V.cells] at h;subst h;refine single _ ?_ hx;cases hx with|el h1=>obtain ⟨A,rfl⟩:=h1;simp
 |own n i j=>simp [V.cells] at h;subst h;refine single _ ?_ hx;cases hx with|own h1=>obtain ⟨A,l,c,rfl⟩:=h1;simp
 |nils=>simp [V.cells] at h;subst h;refine single _ ?_ hx;cases hx;simp
 |clo f vs=>simp [V.cells] at h;subst h;refine single _ ?_ hx;cases hx;simp
end
end Go.Rx
namespace Go.Rx
open Go Go.RowKit
section
variable {P:Program} {T:Tys} {w:World} {ok:Nat→Prop} {lam:Nat→Option Nat} {H:Heap} {q:Nat→Prop} {v0:V} {u0:Upd}
theorem Zwr {op:UnOp} {x:V} {xv:Value} (hx:VRel w ok lam H x xv) (h:unVC op x (eqK v0 u0)):Zbn P w ok lam H q v0 u0 True (Op.unary op xv):=by
 unfold unVC at h;split at h
 ·cases op<;>simp only at h;obtain ⟨rfl,rfl⟩:=h;cases hx.inv_d;exact ⟨.bool _,rfl,rfl,.d (.bool _),fun _=> .d _⟩
 ·cases op<;>simp only at h;obtain ⟨rfl,rfl⟩:=h;cases hx.inv_d;exact ⟨.int _ _,rfl,rfl,.d (.int _ _),fun _=> .d _⟩
 ·exact h.elim
theorem ZrM {c a b:V} {cv av bv:Value} (hc:VRel w ok lam H c cv) (ha:VRel w ok lam H a av) (hb:VRel w ok lam H b bv) (h:Zgl c a b (eqK v0 u0)):
  Zbn P w ok lam H q v0 u0 (ZaJ q a∧ZaJ q b) (do pure (if ←asBool cv then av else bv)):=by
 unfold Zgl at h;split at h
 ·rename_i t;obtain ⟨rfl,rfl⟩:=h;cases hc.inv_d;cases t
  ·exact ⟨bv,rfl,rfl,hb,fun hg=>hg.2⟩
  ·exact ⟨av,rfl,rfl,ha,fun hg=>hg.1⟩
 ·exact h.elim
theorem Zvp {n:Nat} {x:V} {xv:Value} (hx:VRel w ok lam H x xv) (h:ZkJ n x (eqK v0 u0)):Zbn P w ok lam H q v0 u0 (ZaJ q x) (Instr.extract xv n):=by
 unfold ZkJ at h;split at h
 ·rename_i vs;obtain ⟨cs,rfl,hr⟩:=hx.inv_tup;cases hv:vs[n]? with
  |none=>simp [hv,Zab] at h
  |some v=>
   simp only [hv,Zab] at h;obtain ⟨rfl,rfl⟩:=h;obtain ⟨c,hc,hrel⟩:=hr.get hv;refine ⟨c,?_,rfl,hrel,fun hg=>by cases hg with|tup hg=>exact hg _ (List.mem_of_getElem? hv)⟩;have:(⟨cs⟩:Array Value)[n]? =some c:=by simpa using hc
   simp [Instr.extract,this]
 ·exact h.elim
theorem Zf2 (hT:TyOK P T) {t:Nat} (hs:isSl (T t)=true):∃e,P.underlying t=some (.slice e):=by
 unfold isSl at hs;split at hs
 ·rename_i a b e z hTt;obtain ⟨info,d,zz,ht⟩:=hT t _ hTt;have:=Zbl ht.kind;subst this;exact ⟨_,ht.und⟩
 ·simp at hs
theorem Zul {n off len:Nat} {xv:Value} (hx:VRel w ok lam H (.own n off len) xv) {m:Nat} {xs:List (List D)} (hn:H n=some (.arr m xs)):∃A c,xv= .slice A len c:=by
 cases hx with|own _ hx=>
 obtain ⟨_,hc⟩:=hx m xs hn;rcases hc with ⟨_,rfl,rfl⟩|⟨b,o,cap,cs,Te,fr,_,rfl,_⟩
 ·exact ⟨_,_,rfl⟩
 ·exact ⟨_,_,rfl⟩
theorem ZuJ (hT:TyOK P T) {ts:Array Nat} {t ty:Nat} (hts:ts[0]? =some t) {x:V} {xv:Value} (hx:VRel w ok lam H x xv)
  (h:Zgc H (T t) x (eqK v0 u0)):Zbn P w ok lam H q v0 u0 True (Builtin.len_ ts ty #[xv]):=by
 have sl:∀ {e:Nat} {A:Option Addr} {n c:Nat},P.underlying t=some (.slice e)→(Builtin.len_ ts ty #[.slice A n c]).run P w= .ok (.int .i64 n) w:=by
  intro e A n c hu;simp [Builtin.len_,hts,run_underlying hu,goInt]
 unfold Zgc at h;split at h
 ·obtain ⟨hs,rfl,rfl⟩:=h;cases hx.inv_d;have hu:=ZjW hT hs;exact ⟨.int .i64 _,by simp [Builtin.len_,hts,run_underlying hu,goInt,ZhO],rfl,.d (.int _ _),fun _=> .d _⟩
 ·obtain ⟨hs,rfl,rfl⟩:=h;obtain ⟨e,hu⟩:=Zf2 hT hs;cases hx.inv_d with
  |sl0 A c=>exact ⟨_,sl hu,rfl,.d (.int _ _),fun _=> .d _⟩
  |sl _ m b o cap f hc hm hb hl hv hd=>exact ⟨_,sl hu,rfl,.d (.int _ _),fun _=> .d _⟩
 ·rename_i n off len;obtain ⟨hs,h⟩:=h;have hn:∃m xs,H n=some (.arr m xs)∧v0= .d (.int .i64 len)∧u0=[]:=by
   cases hn:H n with
   |none=>simp [hn,Zb2] at h
   |some o=>cases o with
    |box c=>simp [hn,Zb2] at h
    |arr m xs=>rw [hn] at h;exact ⟨m,xs,rfl,h.1.symm,h.2.symm⟩
  obtain ⟨m,xs,hn,rfl,rfl⟩:=hn;obtain ⟨e,hu⟩:=Zf2 hT hs;obtain ⟨A,c,rfl⟩:=Zul hx hn;exact ⟨_,sl hu,rfl,.d (.int _ _),fun _=> .d _⟩
 ·obtain ⟨hs,rfl,rfl⟩:=h;obtain ⟨e,hu⟩:=Zf2 hT hs;cases hx;exact ⟨_,sl hu,rfl,.d (.int _ _),fun _=> .d _⟩
 ·exact h.elim
theorem Zkk (a b:List UInt8):Op.bytesLess a b=Zax a b:=rfl
theorem Zuz {ts:Array Nat} {ty:Nat} {x y:V} {xv yv:Value} (hx:VRel w ok lam H x xv) (hy:VRel w ok lam H y yv) {v:V} (hm:Zhc true x y=some v) (h:v0=v∧u0=[]):
  Zbn P w ok lam H q v0 u0 True (Builtin.min_ ts ty #[xv,yv]):=by
 obtain ⟨rfl,rfl⟩:=h;unfold Zhc at hm;split at hm
 ·split at hm
  ·rename_i k a k' b hkk;subst hkk;simp at hm;subst hm;cases hx.inv_d;cases hy.inv_d;exact ⟨.int _ _,run_min_int2 _ _ _ _ _ _ _,rfl,.d (.int _ _),fun _=> .d _⟩
  ·simp at hm
 ·rename_i a b;simp at hm;subst hm;cases hx.inv_d with|str _ ha=>
  cases hy.inv_d with|str _ hb=>
  have e:=Zfd a b;refine ⟨.string ⟨⟨bif Zax b a then b else a⟩⟩,?_,rfl,.d (.str _ (by cases (Zax b a)<;>simpa)),fun _=> .d _⟩;simp only [Builtin.min_,List.foldlM_cons,List.foldlM_nil,Builtin.min2,Op.stringOp,Zfk,Zkk,e,Sem.run_bind,Sem.run_pure,Result.andThen_ok,asBool];cases Zax b a<;>rfl
 ·simp at hm
theorem ZuE {ts:Array Nat} {ty:Nat} {x y:V} {xv yv:Value} (hx:VRel w ok lam H x xv) (hy:VRel w ok lam H y yv) {v:V} (hm:Zhc false x y=some v) (h:v0=v∧u0=[]):
  Zbn P w ok lam H q v0 u0 True (Builtin.max_ ts ty #[xv,yv]):=by
 obtain ⟨rfl,rfl⟩:=h;unfold Zhc at hm;split at hm
 ·split at hm
  ·rename_i k a k' b hkk;subst hkk;simp at hm;subst hm;cases hx.inv_d;cases hy.inv_d;refine ⟨.int _ (if a<b then b else a),?_,rfl,.d (.int _ _),fun _=> .d _⟩;rw [run_max_int2]
  ·simp at hm
 ·rename_i a b;simp at hm;subst hm;cases hx.inv_d with|str _ ha=>
  cases hy.inv_d with|str _ hb=>
  refine ⟨.string ⟨⟨bif Zax a b then b else a⟩⟩,?_,rfl,.d (.str _ (by cases Zax a b<;>simpa)),fun _=> .d _⟩;simp [Builtin.max_,Builtin.max2,Op.stringOp,Zfk,Zkk,asBool];cases Zax a b<;>rfl
 ·simp at hm
theorem ZpY {src dst e:Nat} {l:List UInt8} {xv:Value} {o:Nat→Prop} (hs:P.underlying src=some (.slice e)) (he:P.underlying e=some (.int .u8)) (hd:P.underlying dst=some .string)
  (hx:DRel w o (.sl (l.map ZaU)) xv):(convert src dst xv).run P w= .ok (.string ⟨⟨l⟩⟩) w∧l.length≤LEN:=by
 generalize hxs:l.map ZaU=xs at hx;cases hx with
 |sl0 A c=>
  have:l=[]:=by simpa using hxs
  subst this;refine ⟨?_,by unfold LEN;simp⟩;cases A with
  |none=>rw [run_convert_bytes_string w src dst e none 0 c hs he hd];rfl
  |some a=>exact run_convert_bytes_back w src dst e a c [] hs he hd (fun j hj=>by simp at hj)
 |sl _ m b o cap f hc hm hb hl hv hd'=>
  have hlen:xs.length=l.length:=by rw [←hxs];simp
  refine ⟨?_,by omega⟩;rw [hlen];cases l with
  |nil=>exact run_convert_bytes_back w src dst e ⟨b,o,none⟩ cap [] hs he hd (fun j hj=>by simp at hj)
  |cons c0 l0=>
   have hm1:m=1:=by rw [←hl (ZaU c0) (by rw [←hxs];simp)];rfl
   subst hm1;refine run_convert_bytes_back w src dst e ⟨b,o,none⟩ cap (c0::l0) hs he hd fun j hj=>?_;have hxj:xs[j]? =some (ZaU (c0::l0)[j]):=by rw [←hxs,List.getElem?_map,List.getElem?_eq_getElem hj];rfl
   have h1:=hv j _ 0 _ hxj rfl;have h2:=hd' j _ 0 _ hxj rfl;rw [Addr.add_mid];simp only [Nat.mul_one,Nat.add_zero] at h1 h2;rw [h1];generalize f j=y at h2;cases h2;rfl
end
end Go.Rx
