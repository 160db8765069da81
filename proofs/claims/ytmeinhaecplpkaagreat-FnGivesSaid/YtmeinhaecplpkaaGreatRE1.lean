/-
  Part E1: lemmas on an evaluator over plain data of the model's code, plain laws on lists and numbers, or contracts of functions of the program; each lemma names its conditions.
-/
import Derived.Orders
import Derived.Below
import Derived.Laws.IdiomCopy
import Derived.Laws.Rows
import Derived.Laws.OwnMore
import Derived.Laws.MakeOwn
import Derived.Deep.MidRow

set_option linter.unusedSimpArgs false
set_option linter.unusedVariables false
namespace Go.Rx
open Go Go.RowKit
inductive D where
 |int (k:IntKind) (n:Int)
 |bool (b:Bool)
 |str (s:List UInt8)
 |sl (xs:List (List D))
 |agg (cs:List D)
 |ptr (cs:List D)
 |clo (f:FuncId) (cs:List D)
 |nilp
 |und
instance:Inhabited D:=⟨.und⟩
def MAX:Nat:=140737488355328
def LEN:Nat:=9223372036854775807
inductive DRel (w:World) (ok:Nat→Prop):D→Value→Prop
 |int (k:IntKind) (n:Int):DRel w ok (.int k n) (.int k n)
 |bool (b:Bool):DRel w ok (.bool b) (.bool b)
 |str (s:List UInt8) (h:s.length≤LEN):DRel w ok (.str s) (.string ⟨⟨s⟩⟩)
 |sl0 (A:Option Addr) (c:Nat):DRel w ok (.sl []) (.slice A 0 c)
 |sl (xs:List (List D)) (m b o cap:Nat) (vs:Nat→Value) (hc:xs.length≤cap) (hm:xs.length≤LEN) (hb:ok b) (hl:∀e∈xs,e.length=m)
   (hv:∀(i:Nat) e (j:Nat) d,xs[i]? =some e→e[j]? =some d→w.cell? ⟨b,o+(i*m+j),none⟩=some (vs (i*m+j)))
   (hd:∀(i:Nat) e (j:Nat) d,xs[i]? =some e→e[j]? =some d→DRel w ok d (vs (i*m+j))):
   DRel w ok (.sl xs) (.slice (some ⟨b,o,none⟩) xs.length cap)
 |agg (cs:List D) (vs:List Value) (hl:cs.length=vs.length) (hd:∀(i:Nat) d v,cs[i]? =some d→vs[i]? =some v→DRel w ok d v):
   DRel w ok (.agg cs) (.agg ⟨vs⟩)
 |ptr (cs:List D) (b o:Nat) (vs:Nat→Value) (hb:ok b) (hv:∀(j:Nat) d,cs[j]? =some d→w.cell? ⟨b,o+j,none⟩=some (vs j))
   (hd:∀(j:Nat) d,cs[j]? =some d→DRel w ok d (vs j)):DRel w ok (.ptr cs) (.pointer (some ⟨b,o,none⟩))
 |clo (f:FuncId) (cs:List D) (vs:List Value) (hl:cs.length=vs.length) (hd:∀(i:Nat) d v,cs[i]? =some d→vs[i]? =some v→DRel w ok d v):
   DRel w ok (.clo f cs) (.func (.func f) #[] ⟨vs⟩)
 |nilp:DRel w ok .nilp (.pointer none)
 |und:DRel w ok .und undef
theorem DRel.mono {w w':World} {ok ok':Nat→Prop} {d:D} {v:Value} (h:DRel w ok d v)
  (hw:∀b,ok b→w'.heap[b]? =w.heap[b]?) (hok:∀b,ok b→ok' b):DRel w' ok' d v:=by
 induction h with
 |int k n=>exact .int k n
 |bool b=>exact .bool b
 |str s h=>exact .str s h
 |sl0 A c=>exact .sl0 A c
 |sl xs m b o cap vs hc hm hb hl hv hd ih=>
  exact .sl xs m b o cap vs hc hm (hok b hb) hl (fun i e j d h1 h2=>(World.cell?_of_block (w:=w) (hw b hb)).trans (hv i e j d h1 h2)) ih
 |agg cs vs hl hd ih=>exact .agg cs vs hl ih
 |ptr cs b o vs hb hv hd ih=>exact .ptr cs b o vs (hok b hb) (fun j d h1=>(World.cell?_of_block (w:=w) (hw b hb)).trans (hv j d h1)) ih
 |clo f cs vs hl hd ih=>exact .clo f cs vs hl ih
 |nilp=>exact .nilp
 |und=>exact .und
inductive V where
 |d (x:D)
 |ref (n off:Nat)
 |el (n i j:Nat)
 |own (n off len:Nat)
 |nils
 |agg (vs:List V)
 |tup (vs:List V)
 |clo (f:FuncId) (vs:List V)
 |dead
instance:Inhabited V:=⟨.dead⟩
inductive AObj where
 |box (cells:List V)
 |arr (m:Nat) (xs:List (List D))
def OwnV (w : World) (lam : Nat → Option Nat) (n m : Nat) (xs : List (List D)) (off len : Nat) (v : Value) : Prop :=
  off + len ≤ xs.length ∧
  ((lam n = none ∧ v = .slice none 0 0 ∧ len = 0) ∨
   ∃ b o cap cs T fr, lam n = some b ∧ v = .slice (some ⟨b, o, none⟩) len cap ∧ len ≤ cap ∧ (cap = 0 ∨ o = off * m) ∧
     w.heap[b]? = some (.cells cs T fr) ∧ (off + cap) * m ≤ cs.size)
inductive VRel (w:World) (ok:Nat→Prop) (lam:Nat→Option Nat) (H:Nat→Option AObj):V→Value→Prop
 |d {x:D} {v:Value} (h:DRel w ok x v):VRel w ok lam H (.d x) v
 |ref {n off:Nat} {v:Value} (h1:∃A,v= .pointer A) (h:∀o,H n=some o→∃b,lam n=some b∧v= .pointer (some ⟨b,off,none⟩)):VRel w ok lam H (.ref n off) v
 |el {n i j:Nat} {v:Value} (h1:∃A,v= .pointer A) (h:∀m xs,H n=some (.arr m xs)→i<xs.length∧∃b,lam n=some b∧v= .pointer (some ⟨b,i*m+j,none⟩)):VRel w ok lam H (.el n i j) v
 |own {n off len:Nat} {v:Value} (h1:∃A l c,v= .slice A l c) (h:∀m xs,H n=some (.arr m xs)→OwnV w lam n m xs off len v):VRel w ok lam H (.own n off len) v
 |nils:VRel w ok lam H .nils (.slice none 0 0)
 |agg {cs:List V} {vs:List Value} (hl:cs.length=vs.length) (hd:∀(i:Nat) d v,cs[i]? =some d→vs[i]? =some v→VRel w ok lam H d v):
   VRel w ok lam H (.agg cs) (.agg ⟨vs⟩)
 |tup {cs:List V} {vs:List Value} (hl:cs.length=vs.length) (hd:∀(i:Nat) d v,cs[i]? =some d→vs[i]? =some v→VRel w ok lam H d v):
   VRel w ok lam H (.tup cs) (.tuple ⟨vs⟩)
 |clo {f:FuncId} {cs:List V} {vs:List Value} (hl:cs.length=vs.length) (hd:∀(i:Nat) d v,cs[i]? =some d→vs[i]? =some v→VRel w ok lam H d v):
   VRel w ok lam H (.clo f cs) (.func (.func f) #[] ⟨vs⟩)
 |dead {v:Value}:VRel w ok lam H .dead v
inductive VGood (p:Nat→Prop):V→Prop
 |d (x:D):VGood p (.d x)
 |ref {n off:Nat} (h:p n):VGood p (.ref n off)
 |el {n i j:Nat} (h:p n):VGood p (.el n i j)
 |own {n off len:Nat} (h:p n):VGood p (.own n off len)
 |nils:VGood p .nils
 |agg {cs:List V} (h:∀v∈cs,VGood p v):VGood p (.agg cs)
 |tup {cs:List V} (h:∀v∈cs,VGood p v):VGood p (.tup cs)
 |clo {f:FuncId} {cs:List V} (h:∀v∈cs,VGood p v):VGood p (.clo f cs)
 |dead:VGood p .dead
def OGood (p:Nat→Prop):AObj→Prop
 | .box cells=>∀v∈cells,VGood p v
 | .arr _ _=>True
theorem VGood.mono {p q:Nat→Prop} {v:V} (h:VGood p v) (hpq:∀n,p n→q n):VGood q v:=by
 induction h with
 |d x=>exact .d x
 |ref h=>exact .ref (hpq _ h)
 |el h=>exact .el (hpq _ h)
 |own h=>exact .own (hpq _ h)
 |nils=>exact .nils
 |agg h ih=>exact .agg ih
 |tup h ih=>exact .tup ih
 |clo h ih=>exact .clo ih
 |dead=>exact .dead
theorem OGood.mono {p q:Nat→Prop} {o:AObj} (h:OGood p o) (hpq:∀n,p n→q n):OGood q o:=by
 cases o with
 |box cells=>exact fun v hv=>(h v hv).mono hpq
 |arr m xs=>trivial
theorem VRel.mono {w w':World} {ok ok':Nat→Prop} {lam lam':Nat→Option Nat} {H H':Nat→Option AObj} {p:Nat→Prop} {x:V} {v:Value}
  (h:VRel w ok lam H x v) (hg:VGood p x)
  (hw:∀b,ok b→w'.heap[b]? =w.heap[b]?) (hok:∀b,ok b→ok' b)
  (hl:∀n,p n→H' n≠none→lam' n=lam n)
  (hbox:∀n,p n→∀c',H' n=some (.box c')→∃c,H n=some (.box c))
  (harr:∀n,p n→∀m xs',H' n=some (.arr m xs')→∃xs,H n=some (.arr m xs)∧xs.length=xs'.length)
  (hsz:∀n b cs T fr m xs',p n→H' n=some (.arr m xs')→lam n=some b→w.heap[b]? =some (.cells cs T fr)→∃cs' T' fr',w'.heap[b]? =some (.cells cs' T' fr')∧cs'.size=cs.size):
  VRel w' ok' lam' H' x v:=by
 induction h with
 |d h=>exact .d (h.mono hw hok)
 |ref h1 h=>
  cases hg with|ref hp=>
  refine .ref h1 fun o ho=>?_
  have hl':=hl _ hp (by rw [ho];simp)
  cases o with
  |box c'=>obtain ⟨c,hc⟩:=hbox _ hp c' ho;obtain ⟨b,hb,hv⟩:=h _ hc;exact ⟨b,hl'.trans hb,hv⟩
  |arr m xs'=>obtain ⟨xs,hx,_⟩:=harr _ hp m xs' ho;obtain ⟨b,hb,hv⟩:=h _ hx;exact ⟨b,hl'.trans hb,hv⟩
 |el h1 h=>
  cases hg with|el hp=>
  refine .el h1 fun m xs' ho=>?_
  have hl':=hl _ hp (by rw [ho];simp)
  obtain ⟨xs,hx,hlen⟩:=harr _ hp m xs' ho
  obtain ⟨hi,b,hb,hv⟩:=h _ _ hx
  exact ⟨hlen▸hi,b,hl'.trans hb,hv⟩
 |own h1 h=>
  cases hg with|own hp=>
  refine .own h1 fun m xs' ho=>?_
  have hl':=hl _ hp (by rw [ho];simp)
  obtain ⟨xs,hx,hlen⟩:=harr _ hp m xs' ho
  obtain ⟨hle,hcase⟩:=h m xs hx
  refine ⟨hlen▸hle,?_⟩
  rcases hcase with ⟨g1,h2,h3⟩|⟨b,o,cap,cs,T,fr,g1,h2,h3,h4,h5,h6⟩
  ·exact .inl ⟨hl'.trans g1,h2,h3⟩
  ·obtain ⟨cs',T',fr',h7,h8⟩:=hsz _ b cs T fr m xs' hp ho g1 h5
   exact .inr ⟨b,o,cap,cs',T',fr',hl'.trans g1,h2,h3,h4,h7,by rw [h8];exact h6⟩
 |nils=>exact .nils
 |agg hl hd ih=>
  cases hg with|agg hp=>
  exact .agg hl fun i d v h1 h2=>ih i d v h1 h2 (hp _ (List.mem_of_getElem? h1))
 |tup hl hd ih=>
  cases hg with|tup hp=>
  exact .tup hl fun i d v h1 h2=>ih i d v h1 h2 (hp _ (List.mem_of_getElem? h1))
 |clo hl hd ih=>
  cases hg with|clo hp=>
  exact .clo hl fun i d v h1 h2=>ih i d v h1 h2 (hp _ (List.mem_of_getElem? h1))
 |dead=>exact .dead
def ObjRel (w : World) (ok : Nat → Prop) (lam : Nat → Option Nat) (H : Nat → Option AObj) (n : Nat) : AObj → Prop
  | .box cells => ∃ b cs T, lam n = some b ∧ w.heap[b]? = some (.cells cs T (0, 0)) ∧ cells.length = cs.size ∧
      ∀ (i : Nat) v c, cells[i]? = some v → cs[i]? = some c → VRel w ok lam H v c
  | .arr m xs => (∀ e ∈ xs, e.length = m) ∧ xs.length ≤ MAX ∧
      ((lam n = none ∧ xs = []) ∨
       ∃ b cs T fr, lam n = some b ∧ w.heap[b]? = some (.cells cs T fr) ∧ (∀ i, i < cs.size → w.frozen? ⟨b, i, none⟩ = false) ∧ xs.length * m ≤ cs.size ∧
         ∀ (i : Nat) e (j : Nat) d, xs[i]? = some e → e[j]? = some d → ∃ c, cs[i * m + j]? = some c ∧ DRel w ok d c)
structure HOK (w:World) (ok:Nat→Prop) (lam:Nat→Option Nat) (H:Nat→Option AObj):Prop where
 inj:∀n n' b,H n≠none→H n'≠none→lam n=some b→lam n'=some b→n=n'
 lt:∀n b,H n≠none→lam n=some b→b<w.heap.size
 dis:∀n b,H n≠none→lam n=some b→¬ok b
 oklt:∀b,ok b→b<w.heap.size
 obj:∀n o,H n=some o→ObjRel w ok lam H n o
def Sized (w w':World):Prop:=∀(k:Nat) (cs:Array Value) (T:TypeId) (fr:Nat×Nat),w.heap[k]? =some (.cells cs T fr)→
 ∃(cs':Array Value) (T':TypeId) (fr':Nat×Nat),w'.heap[k]? =some (.cells cs' T' fr')∧cs'.size=cs.size
structure Fr (U:Nat→Prop) (w w':World):Prop where
 os:w'.os=w.os
 tape:w'.tape=w.tape
 output:w'.output=w.output
 size:w.heap.size≤w'.heap.size
 block:∀k,k<w.heap.size→¬U k→w'.heap[k]? =w.heap[k]?
 sized:Sized w w'
theorem lt_of_some {w:World} {k:Nat} {o:Obj} (h:w.heap[k]? =some o):k<w.heap.size:=(Array.getElem?_eq_some_iff.1 h).1
theorem sized_same {w w':World} (h:∀k,k<w.heap.size→w'.heap[k]? =w.heap[k]?):Sized w w':=
 fun k cs T fr e=>⟨cs,T,fr,(h k (lt_of_some e)).trans e,rfl⟩
theorem Sized.trans {a b c:World} (h:Sized a b) (k:Sized b c):Sized a c:=fun i cs T fr e=>by
 obtain ⟨cs',T',fr',e',h1⟩:=h i cs T fr e
 obtain ⟨cs2,T2,fr2,e2,h2⟩:=k i cs' T' fr' e'
 exact ⟨cs2,T2,fr2,e2,h2.trans h1⟩
theorem sized_one {w w':World} {b:Nat} {cb:Array Value} {Tb:TypeId} {fb:Nat×Nat} (hb:w'.heap[b]? =some (.cells cb Tb fb)) (hs:∀(cs:Array Value) (T:TypeId) (fr:Nat×Nat),w.heap[b]? =some (.cells cs T fr)→cb.size=cs.size)
  (h:∀k,k<w.heap.size→k≠b→w'.heap[k]? =w.heap[k]?):Sized w w':=fun k cs T fr e=>by
 by_cases hk:k=b
 ·subst hk;exact ⟨cb,Tb,fb,hb,hs cs T fr e⟩
 ·exact ⟨cs,T,fr,(h k (lt_of_some e) hk).trans e,rfl⟩
theorem Fr.refl (U:Nat→Prop) (w:World):Fr U w w:=⟨rfl,rfl,rfl,Nat.le_refl _,fun _ _ _=>rfl,sized_same fun _ _=>rfl⟩
end Go.Rx
namespace Go.Rx
open Go Go.RowKit
inductive Z where
 |d (x:D)
 |nils (m:Nat)
inductive TK where
 |int (k:IntKind)|bool|str|ptr|slice (e:Nat)|struct (fs:List (Nat×Nat))|other
structure TI where
 size:Nat
 bytes:Nat
 kind:TK
 zero:List Z
abbrev Tys:=Nat→Option TI
abbrev Heap:=Nat→Option AObj
abbrev Upd:=List (Nat×Option AObj)
structure St where
 env:List (Nat×V)
 H:Upd
def eget:List (Nat×V)→Nat→V
 |[],_=> .dead
 |(k,v)::l,t=>bif k==t then v else eget l t
def hget:List (Nat×AObj)→Nat→Option AObj
 |[],_=>none
 |(k,o)::l,n=>bif k==n then some o else hget l n
def uget:Upd→Nat→Option AObj
 |[],_=>none
 |(k,o)::l,n=>bif k==n then o else uget l n
def D.one:D→Bool
 | .agg _| .und=>false
 |_=>true
def V.one:V→Bool
 | .agg _| .tup _| .dead=>false
 | .d x=>x.one
 |_=>true
def V.cells:V→Option (List V)
 | .agg vs=>some vs
 | .d (.agg ds)=>some (ds.map .d)
 | .dead| .tup _| .d .und=>none
 |v=>some [v]
def ofCell:Value→V
 | .int k n=> .d (.int k n)
 | .bool b=> .d (.bool b)
 | .string s=>bif s.data.toList.length.ble 4096 then .d (.str s.data.toList) else .dead
 | .pointer none=> .d .nilp
 | .slice none 0 0=> .nils
 |_=> .dead
def ofVal:Value→V
 | .agg cs=> .agg (cs.toList.map ofCell)
 | .tuple cs=> .tup (cs.toList.map ofCell)
 |v=>ofCell v
def ev (env:List (Nat×V)):Operand→V
 | .tmp t=>eget env t
 | .const v=>ofVal v
 | .global _=> .dead
 | .func f=> .d (.clo f [])
def cD (h:Heap):V→Option (D×List Nat)
 | .d x=>some (x,[])
 | .nils=>some (.sl [],[])
 | .own n off len=>match h n with
  |some (.arr _ xs)=>some (.sl ((xs.drop off).take len),[n])
  |_=>none
 |_=>none
def cDs (h:Heap):List V→Option (List D×List Nat)
 |[]=>some ([],[])
 |v::vs=>match cD h v,cDs h vs with
  |some (x,l),some (xs,ls)=>some (x::xs,l++ls)
  |_,_=>none
def toP (h:Heap):V→Option (D×List Nat)
 | .ref n off=>match h n with
  |some (.box cells)=>match cDs h cells with
   |some (ds,ls)=>some (.ptr (ds.drop off),n::ls)
   |none=>none
  |_=>none
 |v=>cD h v
def toPs (h:Heap):List V→Option (List D×List Nat)
 |[]=>some ([],[])
 |v::vs=>match toP h v,toPs h vs with
  |some (x,l),some (xs,ls)=>some (x::xs,l++ls)
  |_,_=>none
def toD (h:Heap):V→Option (D×List Nat)
 | .agg vs=>match cDs h vs with
  |some (ds,ls)=>some (.agg ds,ls)
  |none=>none
 | .clo f vs=>match toPs h vs with
  |some (ds,ls)=>some (.clo f ds,ls)
  |none=>none
 |v=>cD h v
def renC (r:Nat→Option Nat):V→V
 | .ref n off=>match r n with|some k=> .ref k off|none=> .dead
 | .el n i j=>match r n with|some k=> .el k i j|none=> .dead
 | .own n off len=>match r n with|some k=> .own k off len|none=> .dead
 | .d x=> .d x
 | .nils=> .nils
 |_=> .dead
def renA (r:Nat→Option Nat):V→V
 | .agg vs=> .agg (vs.map (renC r))
 | .clo f vs=> .clo f (vs.map (renC r))
 |v=>renC r v
def renV (r:Nat→Option Nat):V→V
 | .tup vs=> .tup (vs.map (renA r))
 |v=>renA r v
def renO (r:Nat→Option Nat):AObj→AObj
 | .box cells=> .box (cells.map (renC r))
 | .arr m xs=> .arr m xs
def idx:List Nat→Nat→Option Nat
 |[],_=>none
 |m::l,n=>bif m==n then some 0 else (idx l n).map (·+1)
def nodup:List Nat→Bool
 |[]=>true
 |n::l=> !(l.contains n)&&nodup l
def refC:V→List Nat
 | .ref n _| .el n _ _| .own n _ _=> [n]
 |_=> []
def refA:V→List Nat
 | .agg vs| .clo _ vs=>vs.flatMap refC
 |v=>refC v
def refV:V→List Nat
 | .tup vs=>vs.flatMap refA
 |v=>refA v
def refO (h:Heap) (n:Nat):List Nat:=
 match h n with
 |some (.box cells)=>n::cells.flatMap refC
 |some (.arr _ _)=> [n]
 |none=> []
def dd:List Nat→List Nat→List Nat
 |acc,[]=>acc.reverse
 |acc,n::l=>bif acc.contains n then dd acc l else dd (n::acc) l
def order (h:Heap) (vs:List V):List Nat:=dd [] (((vs.flatMap refV).flatMap (refO h)).flatMap (refO h))
def objs (h:Heap) (r:Nat→Option Nat):Nat→List Nat→List (Nat×AObj)
 |_,[]=> []
 |k,n::l=>match h n with
  |some o=>(k,renO r o)::objs h r (k+1) l
  |none=>objs h r (k+1) l
def cap (l:List Nat):List Nat:=bif decide (l.length<1000) then l else []
def prep (keep:List Nat) (s:St):St:=
 let vs:=keep.map (eget s.env)
 let o:=cap (order (uget s.H) vs)
 {env:=keep.zip (vs.map (renV (idx o))),H:=(objs (uget s.H) (idx o) 0 o).map fun p=>(p.1,some p.2)}
def sizeOfT (T:Tys) (t:Nat):Nat:=match T t with|some i=>i.size|none=>0
def isStruct (T:Tys) (t:Nat):Bool:=match T t with|some ⟨_,_,.struct _,_⟩=>true|_=>false
def known (T:Tys) (t:Nat):Bool:=match T t with|some _=>true|none=>false
def elemT (T:Tys) (t:Nat):Option Nat:=match T t with|some ⟨_,_,.slice e,_⟩=>some e|_=>none
def mkBox (tb:Nat):Nat→List V→List Z→List V×Upd
 |_,[],_=>([],[])
 |k,v::vs,zs=>
  let r:=mkBox tb (k+1) vs (zs.drop 1)
  match v,zs with
  | .nils,.nils m::_=>(.own (tb+1+k) 0 0::r.1,(tb+1+k,some (.arr m []))::r.2)
  |v,_=>(v::r.1,r.2)
def zeroV:List Z→List V
 |[]=> []
 | .d x::l=> .d x::zeroV l
 | .nils _::l=> .nils::zeroV l
def zeroD:List Z→List D
 |[]=> []
 | .d x::l=>x::zeroD l
 | .nils _::l=> .sl []::zeroD l
def setAt (cs:List V) (off:Nat) (vs:List V):List V:=cs.take off++vs++cs.drop (off+vs.length)
def loadC (T:Tys) (t:Nat) (cs:List V) (off:Nat):V:=
 bif isStruct T t then .agg ((cs.drop off).take (sizeOfT T t)) else (match cs.drop off with|v::_=>v|[]=> .dead)
def fieldOff (T:Tys) (t f:Nat):Option (Nat×Nat):=match T t with
 |some ⟨_,_,.struct fs,_⟩=>fs[f]?
 |_=>none
def eqT:TK→D→D→Option Bool
 | .int _,.int k a,.int k' b=>if k=k' then some (decide (a=b)) else none
 | .bool,.bool a,.bool b=>some (a==b)
 | .str,.str a,.str b=>some (decide (a=b))
 |_,_,_=>none
def kindT (T:Tys) (t:Nat):TK:=match T t with|some i=>i.kind|none=> .other
def eqO:TK→Option D→Option D→Option Bool
 |k,some x,some y=>eqT k x y
 |_,_,_=>none
def andO:Option Bool→Option Bool→Option Bool
 |some a,some b=>some (a&&b)
 |_,_=>none
def eqFs (T:Tys):List (Nat×Nat)→List D→List D→Option Bool
 |[],_,_=>some true
 |(off,ft)::fs,xs,ys=>andO (eqO (kindT T ft) xs[off]? ys[off]?) (eqFs T fs xs ys)
def scalL:List V→Option (List D)
 |[]=>some []
 | .d x::vs=>(scalL vs).map (x::·)
 |_=>none
def scal:V→Option (List D)
 | .agg vs=>scalL vs
 | .d (.agg ds)=>some ds
 |_=>none
def bLess:List UInt8→List UInt8→Bool:=Op.bytesLess
abbrev OK:=V→Upd→Prop
def Req (p q:Prop):Prop:=p∧q
def Way (b:Bool) (p q:Prop):Prop:=(b=true→p)∧(b=false→q)
def WayG (b want:Bool) (p q:Prop):Prop:=(b=want→p)∧(b= !want→q)
def onSome {α:Type}:Option α→(α→Prop)→Prop
 |some x,K=>K x
 |none,_=>False
def onBox:Option AObj→(List V→Prop)→Prop
 |some (.box cs),K=>K cs
 |_,_=>False
def onArr:Option AObj→(Nat→List (List D)→Prop)→Prop
 |some (.arr m xs),K=>K m xs
 |_,_=>False
def onObj:Option AObj→Prop→Prop
 |some _,K=>K
 |none,_=>False
def onInt:V→(IntKind→Int→Prop)→Prop
 | .d (.int k n),K=>K k n
 |_,_=>False
def intVC (op:BinOp) (k:IntKind) (a b:Int) (K:OK):Prop:=match op with
 | .add=>K (.d (.int k (k.wrap (a+b)))) []
 | .sub=>K (.d (.int k (k.wrap (a - b)))) []
 | .mul=>K (.d (.int k (k.wrap (a*b)))) []
 | .quo=>Req (b≠0) (K (.d (.int k (k.wrap (a.tdiv b)))) [])
 | .rem=>Req (b≠0) (K (.d (.int k (a.tmod b))) [])
 | .and=>K (.d (.int k (k.wrap (BitVec.ofInt k.bits a&&&BitVec.ofInt k.bits b).toNat))) []
 | .or=>K (.d (.int k (k.wrap (BitVec.ofInt k.bits a|||BitVec.ofInt k.bits b).toNat))) []
 | .xor=>K (.d (.int k (k.wrap (BitVec.ofInt k.bits a ^^^ BitVec.ofInt k.bits b).toNat))) []
 | .shl=>Req (0≤b) (K (.d (.int k (k.wrap (a*2 ^ min b.toNat k.bits)))) [])
 | .shr=>Req (0≤b) (K (.d (.int k (a.fdiv (2 ^ min b.toNat k.bits)))) [])
 | .eql=>K (.d (.bool (decide (a=b)))) []
 | .neq=>K (.d (.bool (!decide (a=b)))) []
 | .lss=>K (.d (.bool (decide (a<b)))) []
 | .leq=>K (.d (.bool (decide (a≤b)))) []
 | .gtr=>K (.d (.bool (decide (b<a)))) []
 | .geq=>K (.d (.bool (decide (b≤a)))) []
 |_=>False
def strVC (op:BinOp) (a b:List UInt8) (K:OK):Prop:=match op with
 | .add=>Req (a.length+b.length≤LEN) (K (.d (.str (a++b))) [])
 | .eql=>K (.d (.bool (decide (a=b)))) []
 | .neq=>K (.d (.bool (!decide (a=b)))) []
 | .lss=>K (.d (.bool (bLess a b))) []
 | .leq=>K (.d (.bool (!bLess b a))) []
 | .gtr=>K (.d (.bool (bLess b a))) []
 | .geq=>K (.d (.bool (!bLess a b))) []
 |_=>False
def isShift:BinOp→Bool
 | .shl| .shr=>true
 |_=>false
def eqlVC (op:BinOp) (b:Bool) (K:OK):Prop:=match op with
 | .eql=>K (.d (.bool b)) []
 | .neq=>K (.d (.bool (!b))) []
 |_=>False
def aggVC (T:Tys) (op:BinOp):TK→Option (List D)→Option (List D)→OK→Prop
 | .struct fs,some xs,some ys,K=>onSome (eqFs T fs xs ys) fun b=>eqlVC op b K
 |_,_,_,_=>False
def ptrVC (op:BinOp) (b:Bool):TK→OK→Prop
 | .ptr,K=>eqlVC op b K
 |_,_=>False
def binVC (T:Tys) (t:Nat) (op:BinOp):V→V→OK→Prop
 | .d (.int k a),.d (.int k' b),K=>Req ((isShift op=true∨k=k')) (intVC op k a b K)
 | .d (.str a),.d (.str b),K=>strVC op a b K
 | .d (.bool a),.d (.bool b),K=>onSome (eqT (kindT T t) (.bool a) (.bool b)) fun b=>eqlVC op b K
 | .d .nilp,.d .nilp,K=>ptrVC op true (kindT T t) K
 | .d (.ptr _),.d .nilp,K=>ptrVC op false (kindT T t) K
 |x,y,K=>aggVC T op (kindT T t) (scal x) (scal y) K
def Known (P:Program) (f:FuncId):Prop:=∃fn,P.funcs[f]? =some fn∧(fn.name== "runtime.NumGoroutine")=false∧fn.body.isNone=false
def CallOK (P:Program) (f:FuncId) (args:List V) (H:List (Nat×AObj)) (outs:List V) (res:V) (H':List (Nat×AObj)):Prop:=
 Known P f∧∀(w:World) (vs:List Value) (lam:Nat→Option Nat) (ok:Nat→Prop),
  HOK w ok lam (hget H)→args.length=vs.length→(∀(i:Nat) x v,args[i]? =some x→vs[i]? =some v→VRel w ok lam (hget H) x v)→
  Calls P f ⟨vs⟩ w fun e w'=>∃v lam' ok',
   e= .returned v∧Fr (fun b=>∃n,hget H n≠none∧lam n=some b) w w'∧HOK w' ok' lam' (hget H')∧
   VRel w' ok' lam' (hget H') res v∧
   (∀(i:Nat) x v,outs[i]? =some x→vs[i]? =some v→VRel w' ok' lam' (hget H') x v)∧
   (∀b,ok' b→ok b∨(∃n,hget H n≠none∧lam n=some b)∨w.heap.size≤b)∧
   (∀n b,hget H' n≠none→lam' n=some b→(∃n',hget H n'≠none∧lam n'=some b)∨w.heap.size≤b)
inductive Arg where
 |dat (x:D)
 |box (n:Nat)
 |own (n off len:Nat)
 |nils
def gatherD (h:Heap) (v:V) (as:List Arg) (ps bs:List Nat):Option (List Arg×List Nat×List Nat):=match toD h v with
 |some (x,l)=>some (.dat x::as,ps,l++bs)
 |none=>none
def gather1 (h:Heap) (as:List Arg) (ps bs:List Nat):Bool→V→Option (List Arg×List Nat×List Nat)
 |_,.ref n 0=>match h n with
  |some (.box _)=>some (.box n::as,refO h n++ps,bs)
  |_=>none
 |true,.own n off len=>match h n with
  |some (.arr _ _)=>some (.own n off len::as,n::ps,bs)
  |_=>none
 |true,.nils=>some (.nils::as,ps,bs)
 |_,v=>gatherD h v as ps bs
def gather (h:Heap):List Bool→List V→Option (List Arg×List Nat×List Nat)
 |_,[]=>some ([],[],[])
 |ms,v::vs=>match gather h (ms.drop 1) vs with
  |none=>none
  |some (as,ps,bs)=>gather1 h as ps bs (ms.headD false) v
def Arg.name? :Arg→Option Nat
 | .box n=>some n
 | .own n _ _=>some n
 |_=>none
def argV (ps:List Nat):Arg→V
 | .dat x=> .d x
 | .box n=>renC (idx ps) (.ref n 0)
 | .own n off len=>renC (idx ps) (.own n off len)
 | .nils=> .nils
def backTo:List Arg→List V→Nat→Option Nat
 | .box n::as,.ref k _::os,j=>bif k==j then some n else backTo as os j
 | .own n _ _::as,.own k _ _::os,j=>bif k==j then some n else backTo as os j
 |_::as,_::os,j=>backTo as os j
 |_,_,_=>none
def hasKey:List (Nat×AObj)→Nat→Bool
 |[],_=>false
 |(k,_)::l,n=>k==n||hasKey l n
def orElse:Option Nat→Bool→Nat→Option Nat
 |some n,_,_=>some n
 |none,true,k=>some k
 |none,false,_=>none
def back (tb:Nat) (as:List Arg) (outs:List V) (H':List (Nat×AObj)) (j:Nat):Option Nat:=
 orElse (backTo as outs j) (hasKey H' j) (tb+j)
def isBox:Option AObj→Bool
 |some (.box _)=>true
 |_=>false
def isArr:Option AObj→Bool
 |some (.arr _ _)=>true
 |_=>false
def outsFit (H':List (Nat×AObj)):List Arg→List V→Bool
 |[],[]=>true
 | .box _::as,.ref k 0::os=>isBox (hget H' k)&&outsFit H' as os
 | .own _ _ _::as,.own k _ _::os=>isArr (hget H' k)&&outsFit H' as os
 | .own _ _ _::as,.dead::os=>outsFit H' as os
 | .dat _::as,_::os=>outsFit H' as os
 | .nils::as,_::os=>outsFit H' as os
 |_,_=>false
def sameLen:Option AObj→Option AObj→Prop
 |some (.arr m xs),some (.arr m' xs')=>m=m'∧xs.length=xs'.length
 |_,_=>True
def ownFit (h:Heap) (H':List (Nat×AObj)):List Arg→List V→Prop
 | .own n _ _::as,.own k _ _::os=>sameLen (h n) (hget H' k)∧ownFit h H' as os
 |_::as,_::os=>ownFit h H' as os
 |_,_=>True
def smallKeys (H':List (Nat×AObj)):Bool:=nodup (H'.map (·.1))&&H'.all fun q=>Nat.blt q.1 1000
inductive Flat:D→Prop
 |int (k:IntKind) (n:Int):Flat (.int k n)
 |bool (b:Bool):Flat (.bool b)
 |str (s:List UInt8):Flat (.str s)
 |nil:Flat (.sl [])
 |agg {cs:List D} (h:∀d∈cs,Flat d):Flat (.agg cs)
 |nilp:Flat .nilp
 |und:Flat .und
inductive FlatV:V→Prop
 |d {x:D} (h:Flat x):FlatV (.d x)
 |ref (n off:Nat):FlatV (.ref n off)
 |el (n i j:Nat):FlatV (.el n i j)
 |own (n off len:Nat):FlatV (.own n off len)
 |nils:FlatV .nils
 |agg {vs:List V} (h:∀v∈vs,FlatV v):FlatV (.agg vs)
 |tup {vs:List V} (h:∀v∈vs,FlatV v):FlatV (.tup vs)
 |dead:FlatV .dead
def FlatO:AObj→Prop
 | .box cells=>∀v∈cells,FlatV v
 | .arr _ xs=>∀e∈xs,∀d∈e,Flat d
def FlatH (H:List (Nat×AObj)):Prop:=∀p∈H,FlatO p.2
def updOf (tb:Nat) (as:List Arg) (outs:List V) (gone:List Nat) (H':List (Nat×AObj)):Upd:=
 gone.map (·,none)++H'.map fun p=>((back tb as outs H' p.1).getD 0,some (renO (back tb as outs H') p.2))
def simpleV:V→Bool
 | .agg _| .tup _| .clo _ _=>false
 |_=>true
def flat1 (b:Bool) (v:V):List V:=match b,v with
 |true,.agg cs=>bif cs.all simpleV then cs else [.agg cs]
 |_,v=> [v]
def grp1 (b:Bool) (v:V) (fl:List V):V:=match b,v with
 |true,.agg cs=>bif cs.all simpleV then .agg fl else fl.headD .dead
 |_,_=>fl.headD .dead
def flatA:List Bool→List V→List V
 |[],vs=>vs
 |_::_,[]=> []
 |b::sh,v::vs=>flat1 b v++flatA sh vs
def grpA:List Bool→List V→List V→List V
 |[],_,fl=>fl
 |_::_,[],_=> []
 |b::sh,v::vs,fl=>grp1 b v (fl.take (flat1 b v).length)::grpA sh vs (fl.drop (flat1 b v).length)
def callVC (P : Program) (h : Heap) (tb : Nat) (f : FuncId) (args : List V) (K : OK) : Prop :=
  ∃ sh ms as ps bs outs res H', gather h ms (flatA sh args) = some (as, ps, bs) ∧ (nodup ps && nodup (as.filterMap Arg.name?) && ps.all fun n => !bs.contains n) = true ∧
    CallOK P f (grpA sh args (as.map (argV ps))) (objs h (idx ps) 0 ps) (grpA sh args outs) res H' ∧ (outsFit H' as outs && smallKeys H') = true ∧ ownFit h H' as outs ∧
      (((bs = [] ∨ (FlatV res ∧ FlatH H')) ∧ K (renV (back tb as outs H') res) (updOf tb as outs ps H')) ∨
       K (renV (back tb as outs H') res) (updOf tb as outs (bs ++ ps) H'))
def isStr:Option TI→Bool
 |some ⟨_,_,.str,_⟩=>true
 |_=>false
def isSl:Option TI→Bool
 |some ⟨_,_,.slice _,_⟩=>true
 |_=>false
def lenVC (h:Heap) (t:Option TI):V→OK→Prop
 | .d (.str s),K=>Req (isStr t=true) (K (.d (.int .i64 s.length)) [])
 | .d (.sl xs),K=>Req (isSl t=true) (K (.d (.int .i64 xs.length)) [])
 | .own n _ len,K=>Req (isSl t=true) (onArr (h n) fun _ _=>K (.d (.int .i64 len)) [])
 | .nils,K=>Req (isSl t=true) (K (.d (.int .i64 0)) [])
 |_,_=>False
def fits (e:TI) (n:Nat) (ys:List (List D)):Prop:=
 e.zero.length=e.size∧e.bytes≤4096∧n≤4294967296∧(∀c∈ys,c.length=e.size)∧(∀c∈ys,∀d∈c,d.one=true)
def appTo (h:Heap) (tb:Nat) (e:TI):V→List (List D)→OK→Prop
 | .own n 0 len,ys,K=>onArr (h n) fun m xs=>Req (m=e.size) (Req (fits e (len+ys.length) ys) (K (.own tb 0 (len+ys.length)) [(n,none),(tb,some (.arr m (xs.take len++ys)))]))
 | .nils,ys,K=>Req (fits e ys.length ys) (K (.own tb 0 ys.length) [(tb,some (.arr e.size ys))])
 |_,_,_=>False
def slOf:Option (D×List Nat)→Option (List (List D))
 |some (.sl ys,_)=>some ys
 |_=>none
def srcTy (T:Tys):Option Nat→Bool
 |some t=>isSl (T t)||isStr (T t)
 |none=>false
def isIntT (T:Tys):Option Nat→Bool
 |some t=>match T t with
  |some ⟨_,_,.int _,_⟩=>true
  |_=>false
 |none=>false
def appZ (tb:Nat) (e:TI):V→V→OK→Prop
 | .nils,.d (.int _ n),K=>Req (0<n) (Req (n≤4294967296) (Req (e.bytes≤4096) (Req (e.zero.length=e.size) (K (.own tb 0 n.toNat) [(tb,some (.arr e.size (List.replicate n.toNat (zeroD e.zero))))]))))
 |_,_,_=>False
def Sel (b:Bool) (p q:Prop):Prop:=bif b then p else q
def appendVC (T:Tys) (h:Heap) (tb:Nat) (ty ty2:Option Nat) (s x:V) (K:OK):Prop:=
 Sel (isIntT T ty2) (onSome (ty.bind (elemT T)) fun e=>onSome (T e) fun i=>appZ tb i s x K)
  (Req (srcTy T ty2=true) (onSome (ty.bind (elemT T)) fun e=>onSome (T e) fun i=>onSome (slOf (toD h x)) fun ys=>appTo h tb i s ys K))
def minMax (isMin:Bool):V→V→Option V
 | .d (.int k x),.d (.int k' y)=>if k=k' then some (.d (.int k (bif isMin then (if y<x then y else x) else (if x<y then y else x)))) else none
 | .d (.str x),.d (.str y)=>some (.d (.str (bif isMin then (bif !bLess y x then x else y) else (bif bLess x y then y else x))))
 |_,_=>none
def zeroAt (xs:List (List D)) (off n:Nat) (z:List D):List (List D):=xs.take off++List.replicate n z++xs.drop (off+n)
def clearVC (h:Heap) (ti:TI):V→OK→Prop
 | .own n off len,K=>onArr (h n) fun m xs=>Req (m=ti.size) (Req (ti.zero.length=ti.size) (K (.tup []) [(n,some (.arr m (zeroAt xs off len (zeroD ti.zero))))]))
 |_,_=>False
def builtinVC (T:Tys) (h:Heap) (tb:Nat) (b:Builtin) (argTypes:List Nat):List V→OK→Prop
 |[x],K=>match b with
  | .len=>lenVC h (argTypes.head?.bind T) x K
  | .clear=>onSome ((argTypes.head?.bind (elemT T)).bind T) fun ti=>clearVC h ti x K
  |_=>False
 |[x,y],K=>match b with
  | .append=>appendVC T h tb argTypes.head? argTypes[1]? x y K
  | .min=>onSome (minMax true x y) fun v=>K v []
  | .max=>onSome (minMax false x y) fun v=>K v []
  |_=>False
 |_,_=>False
def bound:Option V→Int→Option Int
 |none,d=>some d
 |some (.d (.int _ n)),_=>some n
 |_,_=>none
def sliceVC (T:Tys) (h:Heap) (t:Nat):V→Option V→Option V→Option V→OK→Prop
 | .d (.str s),lo,hi,none,K=>Req (isStr (T t)=true) (onSome (bound lo 0) fun l=>onSome (bound hi s.length) fun h=>
   Req (0≤l) (Req (l≤h) (Req (h≤s.length) (K (.d (.str ((s.take h.toNat).drop l.toNat))) []))))
 | .d (.sl xs),lo,hi,none,K=>onSome (elemT T t) fun e=>Req (known T e=true) (Req ((∀c∈xs,c.length=sizeOfT T e)) (onSome (bound lo 0) fun l=>onSome (bound hi xs.length) fun h=>
   Req (0≤l) (Req (l≤h) (Req (h≤xs.length) (K (.d (.sl ((xs.take h.toNat).drop l.toNat))) [])))))
 | .own n off len,lo,hi,none,K=>onSome (elemT T t) fun e=>onArr (h n) fun m xs=>Req (known T e=true) (Req (m=sizeOfT T e) (onSome (bound lo 0) fun l=>onSome (bound hi len) fun h=>
   Req (0≤l) (Req (l≤h) (Req (h≤len) (K (.own n (off+l.toNat) (h.toNat - l.toNat)) [])))))
 | .nils,lo,hi,none,K=>onSome (elemT T t) fun e=>Req (known T e=true) (onSome (bound lo 0) fun l=>onSome (bound hi 0) fun h=>Req (l=0) (Req (h=0) (K .nils [])))
 |_,_,_,_,_=>False
def lget (xs:List (List D)) (i:Nat):List D:=xs.getD i []
def indexVC (T:Tys) (h:Heap) (e:Option Nat):V→V→OK→Prop
 | .d (.sl xs),i,K=>onSome e fun e=>Req (known T e=true) (onInt i fun _ i=>Req (0≤i) (Req (i<xs.length) (Req ((lget xs i.toNat).length=sizeOfT T e) (K (.d (.ptr (lget xs i.toNat))) []))))
 | .own n off len,i,K=>onSome e fun e=>Req (known T e=true) (onInt i fun _ i=>onArr (h n) fun m xs=>Req (0≤i) (Req (i<len) (Req (off+len≤xs.length) (Req (m=sizeOfT T e) (K (.el n (off+i.toNat) 0) [])))))
 |_,_,_=>False
def loadOk (T:Tys) (t n:Nat):Prop:=sizeOfT T t≤n∧0<sizeOfT T t∧(isStruct T t||sizeOfT T t==1)=true
def loadVC (T:Tys) (h:Heap) (t:Nat):V→OK→Prop
 | .ref n off,K=>onBox (h n) fun cells=>Req (loadOk T t (cells.length - off)) (K (loadC T t cells off) [])
 | .el n i j,K=>onArr (h n) fun m xs=>Req (i<xs.length) (Req (loadOk T t (m - j)) (K (loadC T t ((lget xs i).map .d) j) []))
 | .d (.ptr cs),K=>Req (loadOk T t cs.length) (K (loadC T t (cs.map .d) 0) [])
 |_,_=>False
def storeTo (h:Heap) (tb:Nat) (ti:TI) (vs:List V):V→OK→Prop
 | .ref n off,K=>onBox (h n) fun cells=>Req (off+ti.size≤cells.length) (K (.d .und) ((mkBox tb 0 vs ti.zero).2++[(n,some (.box (setAt cells off (mkBox tb 0 vs ti.zero).1)))]))
 | .el n i j,K=>onArr (h n) fun m xs=>onSome (cDs h vs) fun p=>Req (i<xs.length) (Req (j+ti.size≤m) (Req ((p.2.contains n)=false) (K (.d .und) (p.2.map (·,none)++[(n,some (.arr m (xs.set i ((lget xs i).take j++p.1++(lget xs i).drop (j+p.1.length)))))]))))
 |_,_=>False
def storeVC (T:Tys) (h:Heap) (tb:Nat) (t:Nat) (p x:V) (K:OK):Prop:=
 onSome (T t) fun ti=>onSome x.cells fun vs=>Req (vs.length=ti.size) (Req (ti.size≤900) (Req ((vs.all V.one)=true) (storeTo h tb ti vs p K)))
def litPart (h:Heap):Bool→Option (List V)→Option (List D×List Nat)
 |true,some vs=>cDs h vs
 |_,_=>none
def litParts (h:Heap):Nat→List (Nat×V)→Option (List (List D)×List Nat)
 |_,[]=>some ([],[])
 |k,(i,v)::l=>match litPart h (i==k) v.cells,litParts h (k+1) l with
  |some (ds,ls),some (es,ms)=>some (ds::es,ls++ms)
  |_,_=>none
def buildC (T:Tys) (fs:List (Nat×Nat)) (n:Nat):List V→List (Nat×V)→Option (List V)
 |cs,[]=>some cs
 |cs,(i,v)::l=>match fs[i]?,v.cells with
  |some (off,t),some vs=>bif vs.length==sizeOfT T t&&(off+vs.length).ble n&&known T t then buildC T fs n (setAt cs off vs) l else none
  |_,_=>none
def structOf:Option TI→Option (List (Nat×Nat)×Nat×List Z)
 |some ⟨n,_,.struct fs,z⟩=>some (fs,n,z)
 |_=>none
inductive CK where
 |int (k:IntKind)|str|toBytes|toStr|no
def isU8:Option TI→Bool
 |some ⟨_,_,.int .u8,_⟩=>true
 |_=>false
def convK:Option TI→Option TI→(Nat→Option TI)→CK
 |some ⟨_,_,.int _,_⟩,some ⟨_,_,.int k,_⟩,_=> .int k
 |some ⟨_,_,.str,_⟩,some ⟨_,_,.str,_⟩,_=> .str
 |some ⟨_,_,.str,_⟩,some ⟨_,_,.slice e,_⟩,T=>bif isU8 (T e) then .toBytes else .no
 |some ⟨_,_,.slice e,_⟩,some ⟨_,_,.str,_⟩,T=>bif isU8 (T e) then .toStr else .no
 |_,_,_=> .no
def byteCell (b:UInt8):List D:=[.int .u8 b.toNat]
def byteOf:List D→UInt8
 |[.int .u8 n]=>UInt8.ofNat n.toNat
 |_=>0
def convVC (h:Heap) (tb:Nat):CK→V→OK→Prop
 | .int k,.d (.int _ n),K=>K (.d (.int k (k.wrap n))) []
 | .str,.d (.str s),K=>K (.d (.str s)) []
 | .toBytes,.d (.str s),K=>Req (s.length≤MAX) (K (.own tb 0 s.length) [(tb,some (.arr 1 (s.map byteCell)))])
 | .toStr,x,K=>onSome (slOf (toD h x)) fun xs=>Req ((xs.map byteOf).map byteCell=xs) (K (.d (.str (xs.map byteOf))) [])
 |_,_,_=>False
def allocVC (tb:Nat) (ti:TI) (K:OK):Prop:=
 Req (ti.zero.length=ti.size) (Req (ti.size≤900) (K (.ref tb 0) ((mkBox tb 0 (zeroV ti.zero) ti.zero).2++[(tb,some (.box (mkBox tb 0 (zeroV ti.zero) ti.zero).1))])))
def boxVC (tb:Nat) (ti:TI) (x:V) (K:OK):Prop:=onSome x.cells fun vs=>
 Req (vs.length=ti.size) (Req (ti.size≤900) (K (.ref tb 0) ((mkBox tb 0 vs ti.zero).2++[(tb,some (.box (mkBox tb 0 vs ti.zero).1))])))
def moveNil (T:Tys) (tb:Nat):Option Nat→OK→Prop
 |some e,K=>K (.own tb 0 0) [(tb,some (.arr (sizeOfT T e) []))]
 |none,K=>K .nils []
def moveVC (T:Tys) (tb ty:Nat):V→OK→Prop
 | .nils,K=>moveNil T tb (elemT T ty) K
 |v,K=>K v []
def keepVC (v:V) (K:OK):Prop:=K v []
def pickVC:V→V→V→OK→Prop
 | .d (.bool t),a,b,K=>K (bif t then a else b) []
 |_,_,_,_=>False
def nilVC (h:Heap):V→OK→Prop
 | .ref n off,K=>onObj (h n) (K (.ref n off) [])
 | .el n i j,K=>onArr (h n) fun _ _=>K (.el n i j) []
 | .d (.ptr cs),K=>K (.d (.ptr cs)) []
 | .d (.clo f cs),K=>K (.d (.clo f cs)) []
 | .clo f cs,K=>K (.clo f cs) []
 |_,_=>False
def unVC (op:UnOp):V→OK→Prop
 | .d (.bool b),K=>match op with| .not=>K (.d (.bool (!b))) []|_=>False
 | .d (.int k n),K=>match op with| .neg=>K (.d (.int k (k.wrap (0 - n)))) []|_=>False
 |_,_=>False
def faVC (h:Heap) (off:Nat):V→OK→Prop
 | .ref n o,K=>onObj (h n) (K (.ref n (o+off)) [])
 | .el n i j,K=>onArr (h n) fun _ _=>K (.el n i (j+off)) []
 | .d (.ptr cs),K=>K (.d (.ptr (cs.drop off))) []
 |_,_=>False
def V.aggc:V→Option (List V)
 | .agg vs=>some vs
 | .d (.agg ds)=>some (ds.map .d)
 |_=>none
def fieldVC (T:Tys) (ft off:Nat) (x:V) (K:OK):Prop:=onSome x.aggc fun cs=>
 Req (loadOk T ft (cs.length - off)) (Req (known T ft=true) (K (loadC T ft cs off) []))
def strIx:V→V→OK→Prop
 | .d (.str s),.d (.int _ i),K=>Req (0≤i) (Req (i<s.length) (K (.d (.int .u8 (s.getD i.toNat 0).toNat)) []))
 |_,_,_=>False
def extVC (ix:Nat):V→OK→Prop
 | .tup vs,K=>onSome vs[ix]? fun v=>K v []
 |_,_=>False
def makeVC (tb:Nat) (ti:TI):V→V→OK→Prop
 | .d (.int _ n),.d (.int _ n'),K=>Req (n=n') (Req (0≤n) (Req (n≤4294967296) (Req (ti.bytes≤4096) (Req (ti.zero.length=ti.size) (K (.own tb 0 n.toNat) [(tb,some (.arr ti.size (List.replicate n.toNat (zeroD ti.zero))))])))))
 |_,_,_=>False
def V.isC:V→Bool
 | .agg _| .tup _| .clo _ _=>false
 |_=>true
def calleeVC (P:Program) (h:Heap) (tb:Nat) (args:List V):V→OK→Prop
 | .d (.clo f cs),K=>callVC P h tb f (args++cs.map .d) K
 | .clo f vs,K=>Req ((vs.all V.isC)=true) (callVC P h tb f (args++vs) K)
 |_,_=>False
def litVC (tb:Nat) (len:Nat) (ti:TI):Option (List (List D)×List Nat)→OK→Prop
 |some (es,ls),K=>Req (es.length=len) (Req (len≤65536) (Req (len*ti.size≤65536) (Req ((∀c∈es,c.length=ti.size)) (Req ((∀c∈es,∀d∈c,d.one=true)) (K (.own tb 0 len) (ls.map (·,none)++[(tb,some (.arr ti.size es))]))))))
 |none,_=>False
def opVC (T:Tys) (P:Program) (i:Nat) (o:Oper) (ρ:Operand→V) (h:Heap) (K:OK):Prop:=
 match o.op with
 | .move x=>keepVC (ρ x) K
 | .assign x=>moveVC T (1000*(i+1)) o.type (ρ x) K
 | .pick c a b=>pickVC (ρ c) (ρ a) (ρ b) K
 | .alloc e=>onSome (T e) fun ti=>allocVC (1000*(i+1)) ti K
 | .box e x=>onSome (T e) fun ti=>boxVC (1000*(i+1)) ti (ρ x) K
 | .build t parts=>onSome (structOf (T t)) fun p=>Req (p.2.2.length=p.2.1) (Req ((p.1.all fun q=>known T q.2)=true) (onSome (buildC T p.1 p.2.1 (zeroV p.2.2) (parts.toList.map fun q=>(q.1,ρ q.2))) fun cs=>K (.agg cs) []))
 | .buildSlice t len parts=>onSome ((elemT T t).bind T) fun ti=>
   litVC (1000*(i+1)) len ti (litParts h 0 (parts.toList.map fun p=>(p.1,ρ p.2))) K
 | .load t a=>loadVC T h t (ρ a) K
 | .store t a x=>storeVC T h (1000*(i+1)) t (ρ a) (ρ x) K
 | .nilCheck x=>nilVC h (ρ x) K
 | .binOp op t x y _=>binVC T t op (ρ x) (ρ y) K
 | .unOp op _ x=>unVC op (ρ x) K
 | .convert src dst x=>convVC h (1000*(i+1)) (convK (T src) (T dst) T) (ρ x) K
 | .makeFunc (.func f) first captured=>Req (first.toList.length=0) (K (.clo f (captured.toList.map ρ)) [])
 | .makeSlice t l c=>onSome ((elemT T t).bind T) fun ti=>makeVC (1000*(i+1)) ti (ρ l) (ρ c) K
 | .slice t x lo hi mx=>sliceVC T h t (ρ x) (lo.map ρ) (hi.map ρ) (mx.map ρ) K
 | .fieldAddr t x f=>onSome (fieldOff T t f) fun p=>Req (0<sizeOfT T p.2) (faVC h p.1 (ρ x) K)
 | .field t x f=>onSome (fieldOff T t f) fun p=>fieldVC T p.2 p.1 (ρ x) K
 | .indexAddr t x i=>indexVC T h (elemT T t) (ρ x) (ρ i) K
 | .index t x i=>Req (isStr (T t)=true) (strIx (ρ x) (ρ i) K)
 | .extract x ix=>extVC ix (ρ x) K
 | .call c=>match c.callee with
  | .builtin b=>builtinVC T h (1000*(i+1)) b c.argTypes.toList (c.args.toList.map ρ) K
  | .value (.func f)=>callVC P h (1000*(i+1)) f (c.args.toList.map ρ) K
  | .value x=>calleeVC P h (1000*(i+1)) (c.args.toList.map ρ) (ρ x) K
  |_=>False
 |_=>False
def nilOf (h:Heap):V→Option (Bool→Prop)
 | .d (.sl xs)=>some fun b=>b=true→xs=[]
 | .own n _ len=>match h n with
  |some (.arr _ _)=>some fun b=>b=true→len=0
  |_=>none
 | .nils=>some fun b=>b=true
 |_=>none
def ndBin (h:Heap) (op:BinOp):V→V→Option (Bool→Prop)
 |x,.nils=>match op with
  | .eql=>nilOf h x
  | .neq=>(nilOf h x).map fun S b=>S (!b)
  |_=>none
 |_,_=>none
def onNd:Option (Bool→Prop)→OK→Prop→Prop
 |some S,K,_=>∀b,S b→K (.d (.bool b)) []
 |none,_,p=>p
def capVC (h:Heap) (ok:Bool):List V→OK→Prop
 |[.own n _ len],K=>Req (ok=true) (onArr (h n) fun _ _=>∀c:Nat,len≤c→K (.d (.int .i64 c)) [])
 |[.d (.sl xs)],K=>Req (ok=true) (∀c:Nat,xs.length≤c→K (.d (.int .i64 c)) [])
 |[.nils],K=>Req (ok=true) (K (.d (.int .i64 0)) [])
 |_,_=>False
def slTy (T:Tys) (ts:List Nat):Bool:=isSl (ts.head?.bind T)
def stepVC (T:Tys) (P:Program) (i:Nat) (o:Oper) (ρ:Operand→V) (h:Heap) (K:OK):Prop:=
 match o.op with
 | .binOp op t x y _=>onNd (bif isSl (T t) then ndBin h op (ρ x) (ρ y) else none) K (opVC T P i o ρ h K)
 | .call ⟨.builtin .cap,args,ts⟩=>capVC h (slTy T ts.toList) (args.toList.map ρ) K
 |_=>opVC T P i o ρ h K
def St.app (s:St) (dst:Option Nat) (v:V) (u:Upd):St:=
 {env:=match dst with|some t=>(t,v)::s.env|none=>s.env,H:=u.reverse++s.H}
def guardV (all:List Oper) (env:List (Nat×V)) (j:Nat):V:=
 match all[j]? with
 |some o=>match o.dst with
  |some t=>eget env t
  |none=> .dead
 |none=> .dead
def guardT (all:List Oper) (j:Nat):Option Nat:=(all[j]?).bind (·.dst)
def seqVC (T : Tys) (P : Program) (all : List Oper) : Nat → List Oper → St → (St → Prop) → Prop
  | _, [], s, K => K s
  | i, o :: l, s, K =>
    match o.guard with
    | none => stepVC T P i o (ev s.env) (uget s.H) fun v u => seqVC T P all (i + 1) l (s.app o.dst v u) K
    | some (j, want) => match guardV all s.env j with
      | .d (.bool b) =>
        WayG b want (opVC T P i o (ev ((s.app (guardT all j) (.d (.bool want)) []).env)) (uget s.H) fun v u =>
          seqVC T P all (i + 1) l ((s.app (guardT all j) (.d (.bool want)) []).app o.dst v u) K)
         (seqVC T P all (i + 1) l ((s.app (guardT all j) (.d (.bool (!want))) []).app o.dst (.d .und) []) K)
      | .d .und => seqVC T P all (i + 1) l (s.app o.dst (.d .und) []) K
      | _ => False
structure Foot where
 rt:List Nat
 wt:Option Nat
 rn:List Nat
 wn:List Nat
def tmpsOf (o:Oper):List Nat:=o.op.operands.toList.filterMap fun| .tmp t=>some t|_=>none
def rdN (o:Oper) (ρ:Operand→V) (h:Heap):List Nat:=match o.op with
 | .load _ a=>refV (ρ a)
 | .store _ a x=>refV (ρ a)++refV (ρ x)
 | .indexAddr _ x _=>refV (ρ x)
 | .slice _ x _ _ _=>refV (ρ x)
 | .nilCheck x=>refV (ρ x)
 | .fieldAddr _ x _=>refV (ρ x)
 | .convert _ _ x=>refV (ρ x)
 | .buildSlice _ _ parts=>parts.toList.flatMap fun p=>refV (ρ p.2)
 | .call c=>(c.operands.toList.flatMap fun x=>refV (ρ x)).flatMap (fun n=>n::refO h n)
 |_=> []
def drawVC (T : Tys) (P : Program) (all : List Oper) : Nat → List Oper → St → List Foot → (St → List Foot → Prop) → Prop
  | _, [], s, fs, K => K s fs
  | i, o :: l, s, fs, K =>
    match o.guard with
    | none => opVC T P i o (ev s.env) (uget s.H) fun v u => drawVC T P all (i + 1) l (s.app o.dst v u) (⟨tmpsOf o, o.dst, rdN o (ev s.env) (uget s.H), u.map (·.1)⟩ :: fs) K
    | some (j, want) => match guardV all s.env j with
      | .d (.bool b) =>
        WayG b want (opVC T P i o (ev s.env) (uget s.H) fun v u =>
          drawVC T P all (i + 1) l (s.app o.dst v u) (⟨(guardT all j).toList ++ tmpsOf o, o.dst, rdN o (ev s.env) (uget s.H), u.map (·.1)⟩ :: fs) K)
         (drawVC T P all (i + 1) l (s.app o.dst (.d .und) []) (⟨(guardT all j).toList, o.dst, [], []⟩ :: fs) K)
      | .d .und => drawVC T P all (i + 1) l (s.app o.dst (.d .und) []) (⟨(guardT all j).toList, o.dst, [], []⟩ :: fs) K
      | _ => False
def befs:List (List Nat)→List Oper→List (List Nat)
 |acc,[]=>acc
 |acc,o::l=>befs (acc++[dd [] ((o.after.toList.filter (Region.binds .any)).flatMap fun e=>e.on::(acc.getD e.on []))]) l
def apartL (a b:List Nat):Bool:=a.all fun n=> !b.contains n
def apartF (x y:Foot):Bool:=
 (match x.wt with|some t=> !y.rt.contains t&& !(y.wt==some t)|none=>true)&&
 (match y.wt with|some t=> !x.rt.contains t|none=>true)&&
 apartL x.wn y.wn&&apartL x.wn y.rn&&apartL y.wn x.rn
def edgesOk:Nat→List Oper→Bool
 |_,[]=>true
 |i,o::l=>(o.after.toList.all fun e=> !Region.binds .any e||Nat.blt e.on i)&&edgesOk (i+1) l
def commOK (all:List Oper) (fs:List Foot):Bool:=
 let b:=befs [] all
 let f:=fs.reverse
 edgesOk 0 all&&(f.length==all.length)&&
 (List.range all.length).all fun i=>(List.range i).all fun j=>
  (b.getD i []).contains j||(match f[i]?,f[j]? with|some x,some y=>apartF x y|_,_=>false)
def firstRegion:Code→Nat
 | .region id _ _=>id
 | .seq a b=>match a with
  | .skip| .label _=>firstRegion b
  |a=>firstRegion a
 | .block _ c| .loop c| .scope c=>firstRegion c
 |_=>0
def commP (_:Nat) (all:List Oper) (fs:List Foot):Prop:=commOK all fs=true
abbrev Hints:=Nat→List Nat
def cVC (T:Tys) (P:Program) (hr hl:Hints):Code→St→(Exit→St→Prop)→Prop
 | .skip,s,K=>K .normal s
 | .region id ops draw,s,K=>
  match draw with
  |false=>seqVC T P ops.toList 0 ops.toList (prep (hr id) s) fun s'=>K .normal s'
  |true=>drawVC T P ops.toList 0 ops.toList (prep (hr id) s) [] fun s' fs=>Req (commP 0 ops.toList fs) (K .normal s')
 | .seq a b,s,K=>cVC T P hr hl a s fun e s'=>match e with
  | .normal=>cVC T P hr hl b s' K
  |e=>K e s'
 | .cond c x y,s,K=>match ev s.env c with
  | .d (.bool b)=>Way b (cVC T P hr hl x s K) (cVC T P hr hl y s K)
  |_=>False
 | .block id c,s,K=>cVC T P hr hl c s fun e s'=>match e with
  | .exit i=>if i=id then K .normal s' else K (.exit i) s'
  |e=>K e s'
 | .loop c,s,K=>∃(α:Type) (st:α→St) (inv:α→Prop) (m:α→Nat),(∃x,prep (hl (firstRegion c)) s=st x∧inv x)∧
   ∀x,inv x→cVC T P hr hl c (st x) fun e s''=>match e with
    | .normal=>∃y,prep (hl (firstRegion c)) s''=st y∧inv y∧m y<m x
    |e=>K e s''
 | .exit id,s,K=>K (.exit id) s
 | .ret,s,K=>K .ret s
 | .label _,s,K=>K .normal s
 |_,_,_=>False
def one:List V→V
 |[v]=>v
 |vs=> .tup vs
def resK (T:Tys) (s:St):List ResultVar→(List V→Prop)→Prop
 |[],K=>K []
 | .tmp t::rs,K=>resK T s rs fun vs=>K (eget s.env t::vs)
 | .cell a ty::rs,K=>loadVC T (uget s.H) ty (eget s.env a) fun v _=>resK T s rs fun vs=>K (v::vs)
def outsV (env:List (Nat×V)):Nat→List Bool→List V
 |_,[]=> []
 |i,b::l=>(bif b then eget env i else .dead)::outsV env (i+1) l
def leaves (np:List Bool) (s:St) (res:V):List V×V×List (Nat×AObj):=
 let outs:=outsV s.env 0 np
 let o:=order (uget s.H) (outs++[res])
 (outs.map (renV (idx o)),renV (idx o) res,objs (uget s.H) (idx o) 0 o)
end Go.Rx
namespace Go.Rx
open Go Go.RowKit
def mark {α:Sort _} (x:α):α:=x
@[go_sem] theorem mark_eq {α:Sort _} (x:α):mark x=x:=(rfl)
section
variable {T:Tys} {P:Program} {i:Nat} {d:Option Nat} {ty:Nat} {pos:String} {af:Array Edge} {g:Option (Nat×Bool)} {ρ:Operand→V} {h:Heap} {K:OK}
theorem stepVC_congr {o:Oper} {i':Nat} (e:mark i=i'):stepVC T P i o ρ h K=stepVC T P i' o ρ h K:=by subst e;rfl
attribute [congr] stepVC_congr
@[congr] theorem onNd_congr {x x':Option (Bool→Prop)} {q:Prop} (e:mark x=x'):onNd x K q=onNd x' K q:=by subst e;rfl
@[congr] theorem capVC_congr {b b':Bool} {l l':List V} (e:mark b=b') (e2:l=l'):capVC h b l K=capVC h b' l' K:=by subst e;subst e2;rfl
theorem opVC_congr {o:Oper} {i':Nat} (e:mark i=i'):opVC T P i o ρ h K=opVC T P i' o ρ h K:=by subst e;rfl
attribute [congr] opVC_congr
@[go_sem] theorem op_move {x:Operand}:opVC T P i ⟨d,.move x,ty,pos,af,g⟩ ρ h K=keepVC (ρ x) K:=rfl
@[go_sem] theorem op_assign {x:Operand}:opVC T P i ⟨d,.assign x,ty,pos,af,g⟩ ρ h K=moveVC T (1000*(i+1)) ty (ρ x) K:=rfl
@[go_sem] theorem op_pick {c a b:Operand}:opVC T P i ⟨d,.pick c a b,ty,pos,af,g⟩ ρ h K=pickVC (ρ c) (ρ a) (ρ b) K:=rfl
@[go_sem] theorem op_alloc {e:Nat}:opVC T P i ⟨d,.alloc e,ty,pos,af,g⟩ ρ h K=onSome (T e) fun ti=>allocVC (1000*(i+1)) ti K:=rfl
@[go_sem] theorem op_box {e:Nat} {x:Operand}:opVC T P i ⟨d,.box e x,ty,pos,af,g⟩ ρ h K=onSome (T e) fun ti=>boxVC (1000*(i+1)) ti (ρ x) K:=rfl
@[go_sem] theorem op_build {t:Nat} {ps:Array (Nat×Operand)}:opVC T P i ⟨d,.build t ps,ty,pos,af,g⟩ ρ h K=
  onSome (structOf (T t)) fun p=>Req (p.2.2.length=p.2.1) (Req ((p.1.all fun q=>known T q.2)=true) (onSome (buildC T p.1 p.2.1 (zeroV p.2.2) (ps.toList.map fun q=>(q.1,ρ q.2))) fun cs=>K (.agg cs) [])):=rfl
@[go_sem] theorem op_buildSlice {t n:Nat} {ps:Array (Nat×Operand)}:opVC T P i ⟨d,.buildSlice t n ps,ty,pos,af,g⟩ ρ h K=
  onSome ((elemT T t).bind T) fun ti=>litVC (1000*(i+1)) n ti (litParts h 0 (ps.toList.map fun p=>(p.1,ρ p.2))) K:=rfl
@[go_sem] theorem op_load {t:Nat} {a:Operand}:opVC T P i ⟨d,.load t a,ty,pos,af,g⟩ ρ h K=loadVC T h t (ρ a) K:=rfl
@[go_sem] theorem op_store {t:Nat} {a x:Operand}:opVC T P i ⟨d,.store t a x,ty,pos,af,g⟩ ρ h K=storeVC T h (1000*(i+1)) t (ρ a) (ρ x) K:=rfl
@[go_sem] theorem op_nilCheck {x:Operand}:opVC T P i ⟨d,.nilCheck x,ty,pos,af,g⟩ ρ h K=nilVC h (ρ x) K:=rfl
@[go_sem] theorem op_binOp {op:BinOp} {t u:Nat} {x y:Operand}:opVC T P i ⟨d,.binOp op t x y u,ty,pos,af,g⟩ ρ h K=binVC T t op (ρ x) (ρ y) K:=rfl
@[go_sem] theorem op_unOp {op:UnOp} {t:Nat} {x:Operand}:opVC T P i ⟨d,.unOp op t x,ty,pos,af,g⟩ ρ h K=unVC op (ρ x) K:=rfl
@[go_sem] theorem op_convert {s t:Nat} {x:Operand}:opVC T P i ⟨d,.convert s t x,ty,pos,af,g⟩ ρ h K=convVC h (1000*(i+1)) (convK (T s) (T t) T) (ρ x) K:=rfl
@[go_sem] theorem op_makeFunc {f:Nat} {a b:Array Operand}:opVC T P i ⟨d,.makeFunc (.func f) a b,ty,pos,af,g⟩ ρ h K=(Req (a.toList.length=0) (K (.clo f (b.toList.map ρ)) [])):=rfl
@[go_sem] theorem op_makeSlice {t:Nat} {l c:Operand}:opVC T P i ⟨d,.makeSlice t l c,ty,pos,af,g⟩ ρ h K=onSome ((elemT T t).bind T) fun ti=>makeVC (1000*(i+1)) ti (ρ l) (ρ c) K:=rfl
@[go_sem] theorem op_slice {t:Nat} {x:Operand} {lo hi mx:Option Operand}:opVC T P i ⟨d,.slice t x lo hi mx,ty,pos,af,g⟩ ρ h K=sliceVC T h t (ρ x) (lo.map ρ) (hi.map ρ) (mx.map ρ) K:=rfl
@[go_sem] theorem op_fieldAddr {t f:Nat} {x:Operand}:opVC T P i ⟨d,.fieldAddr t x f,ty,pos,af,g⟩ ρ h K=onSome (fieldOff T t f) fun p=>Req (0<sizeOfT T p.2) (faVC h p.1 (ρ x) K):=rfl
@[go_sem] theorem op_field {t f:Nat} {x:Operand}:opVC T P i ⟨d,.field t x f,ty,pos,af,g⟩ ρ h K=onSome (fieldOff T t f) fun p=>fieldVC T p.2 p.1 (ρ x) K:=rfl
@[go_sem] theorem op_indexAddr {t:Nat} {x y:Operand}:opVC T P i ⟨d,.indexAddr t x y,ty,pos,af,g⟩ ρ h K=indexVC T h (elemT T t) (ρ x) (ρ y) K:=rfl
@[go_sem] theorem op_index {t:Nat} {x y:Operand}:opVC T P i ⟨d,.index t x y,ty,pos,af,g⟩ ρ h K=(Req (isStr (T t)=true) (strIx (ρ x) (ρ y) K)):=rfl
@[go_sem] theorem op_extract {n:Nat} {x:Operand}:opVC T P i ⟨d,.extract x n,ty,pos,af,g⟩ ρ h K=extVC n (ρ x) K:=rfl
@[go_sem] theorem op_builtin {b:Builtin} {as:Array Operand} {ts:Array TypeId}:opVC T P i ⟨d,.call ⟨.builtin b,as,ts⟩,ty,pos,af,g⟩ ρ h K=
  builtinVC T h (1000*(i+1)) b ts.toList (as.toList.map ρ) K:=rfl
@[go_sem] theorem op_call {f:Nat} {as:Array Operand} {ts:Array TypeId}:opVC T P i ⟨d,.call ⟨.value (.func f),as,ts⟩,ty,pos,af,g⟩ ρ h K=
  callVC P h (1000*(i+1)) f (as.toList.map ρ) K:=rfl
@[go_sem] theorem op_callT {t:Nat} {as:Array Operand} {ts:Array TypeId}:opVC T P i ⟨d,.call ⟨.value (.tmp t),as,ts⟩,ty,pos,af,g⟩ ρ h K=
  calleeVC P h (1000*(i+1)) (as.toList.map ρ) (ρ (.tmp t)) K:=rfl
end
section
variable {T:Tys} {P:Program} {i:Nat} {d:Option Nat} {ty:Nat} {pos:String} {af:Array Edge} {g:Option (Nat×Bool)} {ρ:Operand→V} {h:Heap} {K:OK}
@[go_sem] theorem st_move {x:Operand}:stepVC T P i ⟨d,.move x,ty,pos,af,g⟩ ρ h K=keepVC (ρ x) K:=rfl
@[go_sem] theorem st_assign {x:Operand}:stepVC T P i ⟨d,.assign x,ty,pos,af,g⟩ ρ h K=(moveVC T (1000*(i+1)) ty (ρ x) K):=rfl
@[go_sem] theorem st_pick {c a b:Operand}:stepVC T P i ⟨d,.pick c a b,ty,pos,af,g⟩ ρ h K=(pickVC (ρ c) (ρ a) (ρ b) K):=rfl
@[go_sem] theorem st_alloc {e:Nat}:stepVC T P i ⟨d,.alloc e,ty,pos,af,g⟩ ρ h K=(onSome (T e) fun ti=>allocVC (1000*(i+1)) ti K):=rfl
@[go_sem] theorem st_box {e:Nat} {x:Operand}:stepVC T P i ⟨d,.box e x,ty,pos,af,g⟩ ρ h K=(onSome (T e) fun ti=>boxVC (1000*(i+1)) ti (ρ x) K):=rfl
@[go_sem] theorem st_build {t:Nat} {ps:Array (Nat×Operand)}:stepVC T P i ⟨d,.build t ps,ty,pos,af,g⟩ ρ h K=(onSome (structOf (T t)) fun p=>Req (p.2.2.length=p.2.1) (Req ((p.1.all fun q=>known T q.2)=true) (onSome (buildC T p.1 p.2.1 (zeroV p.2.2) (ps.toList.map fun q=>(q.1,ρ q.2))) fun cs=>K (.agg cs) []))):=rfl
@[go_sem] theorem st_buildSlice {t n:Nat} {ps:Array (Nat×Operand)}:stepVC T P i ⟨d,.buildSlice t n ps,ty,pos,af,g⟩ ρ h K=(onSome ((elemT T t).bind T) fun ti=>litVC (1000*(i+1)) n ti (litParts h 0 (ps.toList.map fun p=>(p.1,ρ p.2))) K):=rfl
@[go_sem] theorem st_load {t:Nat} {a:Operand}:stepVC T P i ⟨d,.load t a,ty,pos,af,g⟩ ρ h K=(loadVC T h t (ρ a) K):=rfl
@[go_sem] theorem st_store {t:Nat} {a x:Operand}:stepVC T P i ⟨d,.store t a x,ty,pos,af,g⟩ ρ h K=(storeVC T h (1000*(i+1)) t (ρ a) (ρ x) K):=rfl
@[go_sem] theorem st_nilCheck {x:Operand}:stepVC T P i ⟨d,.nilCheck x,ty,pos,af,g⟩ ρ h K=(nilVC h (ρ x) K):=rfl
@[go_sem] theorem st_unOp {op:UnOp} {t:Nat} {x:Operand}:stepVC T P i ⟨d,.unOp op t x,ty,pos,af,g⟩ ρ h K=(unVC op (ρ x) K):=rfl
@[go_sem] theorem st_convert {s t:Nat} {x:Operand}:stepVC T P i ⟨d,.convert s t x,ty,pos,af,g⟩ ρ h K=(convVC h (1000*(i+1)) (convK (T s) (T t) T) (ρ x) K):=rfl
@[go_sem] theorem st_makeFunc {f:Nat} {a b:Array Operand}:stepVC T P i ⟨d,.makeFunc (.func f) a b,ty,pos,af,g⟩ ρ h K=((Req (a.toList.length=0) (K (.clo f (b.toList.map ρ)) []))):=rfl
@[go_sem] theorem st_makeSlice {t:Nat} {l c:Operand}:stepVC T P i ⟨d,.makeSlice t l c,ty,pos,af,g⟩ ρ h K=(onSome ((elemT T t).bind T) fun ti=>makeVC (1000*(i+1)) ti (ρ l) (ρ c) K):=rfl
@[go_sem] theorem st_slice {t:Nat} {x:Operand} {lo hi mx:Option Operand}:stepVC T P i ⟨d,.slice t x lo hi mx,ty,pos,af,g⟩ ρ h K=(sliceVC T h t (ρ x) (lo.map ρ) (hi.map ρ) (mx.map ρ) K):=rfl
@[go_sem] theorem st_fieldAddr {t f:Nat} {x:Operand}:stepVC T P i ⟨d,.fieldAddr t x f,ty,pos,af,g⟩ ρ h K=(onSome (fieldOff T t f) fun p=>Req (0<sizeOfT T p.2) (faVC h p.1 (ρ x) K)):=rfl
@[go_sem] theorem st_field {t f:Nat} {x:Operand}:stepVC T P i ⟨d,.field t x f,ty,pos,af,g⟩ ρ h K=(onSome (fieldOff T t f) fun p=>fieldVC T p.2 p.1 (ρ x) K):=rfl
@[go_sem] theorem st_indexAddr {t:Nat} {x y:Operand}:stepVC T P i ⟨d,.indexAddr t x y,ty,pos,af,g⟩ ρ h K=(indexVC T h (elemT T t) (ρ x) (ρ y) K):=rfl
@[go_sem] theorem st_index {t:Nat} {x y:Operand}:stepVC T P i ⟨d,.index t x y,ty,pos,af,g⟩ ρ h K=((Req (isStr (T t)=true) (strIx (ρ x) (ρ y) K))):=rfl
@[go_sem] theorem st_extract {n:Nat} {x:Operand}:stepVC T P i ⟨d,.extract x n,ty,pos,af,g⟩ ρ h K=(extVC n (ρ x) K):=rfl
@[go_sem] theorem st_call {f:Nat} {as:Array Operand} {ts:Array TypeId}:stepVC T P i ⟨d,.call ⟨.value (.func f),as,ts⟩,ty,pos,af,g⟩ ρ h K=(callVC P h (1000*(i+1)) f (as.toList.map ρ) K):=rfl
@[go_sem] theorem st_callT {t:Nat} {as:Array Operand} {ts:Array TypeId}:stepVC T P i ⟨d,.call ⟨.value (.tmp t),as,ts⟩,ty,pos,af,g⟩ ρ h K=(calleeVC P h (1000*(i+1)) (as.toList.map ρ) (ρ (.tmp t)) K):=rfl
@[go_sem] theorem st_binOp {op:BinOp} {t u:Nat} {x y:Operand}:stepVC T P i ⟨d,.binOp op t x y u,ty,pos,af,g⟩ ρ h K=onNd (bif isSl (T t) then ndBin h op (ρ x) (ρ y) else none) K (binVC T t op (ρ x) (ρ y) K):=rfl
@[go_sem] theorem st_len {as:Array Operand} {ts:Array TypeId}:stepVC T P i ⟨d,.call ⟨.builtin .len,as,ts⟩,ty,pos,af,g⟩ ρ h K=builtinVC T h (1000*(i+1)) .len ts.toList (as.toList.map ρ) K:=rfl
@[go_sem] theorem st_append {as:Array Operand} {ts:Array TypeId}:stepVC T P i ⟨d,.call ⟨.builtin .append,as,ts⟩,ty,pos,af,g⟩ ρ h K=builtinVC T h (1000*(i+1)) .append ts.toList (as.toList.map ρ) K:=rfl
@[go_sem] theorem st_min {as:Array Operand} {ts:Array TypeId}:stepVC T P i ⟨d,.call ⟨.builtin .min,as,ts⟩,ty,pos,af,g⟩ ρ h K=builtinVC T h (1000*(i+1)) .min ts.toList (as.toList.map ρ) K:=rfl
@[go_sem] theorem st_max {as:Array Operand} {ts:Array TypeId}:stepVC T P i ⟨d,.call ⟨.builtin .max,as,ts⟩,ty,pos,af,g⟩ ρ h K=builtinVC T h (1000*(i+1)) .max ts.toList (as.toList.map ρ) K:=rfl
@[go_sem] theorem st_clear {as:Array Operand} {ts:Array TypeId}:stepVC T P i ⟨d,.call ⟨.builtin .clear,as,ts⟩,ty,pos,af,g⟩ ρ h K=builtinVC T h (1000*(i+1)) .clear ts.toList (as.toList.map ρ) K:=rfl
@[go_sem] theorem st_cap {as:Array Operand} {ts:Array TypeId}:stepVC T P i ⟨d,.call ⟨.builtin .cap,as,ts⟩,ty,pos,af,g⟩ ρ h K=capVC h (slTy T ts.toList) (as.toList.map ρ) K:=rfl
end
section
variable {T:Tys} {P:Program} {h:Heap} {K:OK} {tb:Nat}
@[congr] theorem moveVC_congr {ty:Nat} {v v':V} (e:mark v=v'):moveVC T tb ty v K=moveVC T tb ty v' K:=by subst e;rfl
@[congr] theorem keepVC_congr {v v':V} (e:mark v=v'):keepVC v K=keepVC v' K:=by subst e;rfl
@[congr] theorem appZ_congr {t t':TI} {v v' x x':V} (e0:mark t=t') (e:v=v') (e2:x=x'):appZ tb t v x K=appZ tb t' v' x' K:=by subst e0;subst e;subst e2;rfl
@[congr] theorem Sel_congr {b b':Bool} {p q:Prop} (h:mark b=b'):Sel b p q=Sel b' p q:=by subst h;rfl
@[go_sem] theorem Sel_true {p q:Prop}:Sel true p q=p:=rfl
@[go_sem] theorem Sel_false {p q:Prop}:Sel false p q=q:=rfl
@[congr] theorem moveNil_congr {v v':Option Nat} (e:mark v=v'):moveNil T tb v K=moveNil T tb v' K:=by subst e;rfl
@[congr] theorem pickVC_congr {c c' a a' b b':V} (e:mark c=c') (e1:a=a') (e2:b=b'):pickVC c a b K=pickVC c' a' b' K:=by subst e;subst e1;subst e2;rfl
@[congr] theorem onSome_congr {α:Type} {F:α→Prop} {x x':Option α} (e:mark x=x'):onSome x F=onSome x' F:=by subst e;rfl
@[congr] theorem onBox_congr {F:List V→Prop} {x x':Option AObj} (e:mark x=x'):onBox x F=onBox x' F:=by subst e;rfl
@[congr] theorem onArr_congr {F:Nat→List (List D)→Prop} {x x':Option AObj} (e:mark x=x'):onArr x F=onArr x' F:=by subst e;rfl
@[congr] theorem onObj_congr {F:Prop} {x x':Option AObj} (e:mark x=x'):onObj x F=onObj x' F:=by subst e;rfl
@[congr] theorem onInt_congr {F:IntKind→Int→Prop} {x x':V} (e:mark x=x'):onInt x F=onInt x' F:=by subst e;rfl
@[congr] theorem allocVC_congr {ti ti':TI} (e:mark ti=ti'):allocVC tb ti K=allocVC tb ti' K:=by subst e;rfl
@[congr] theorem boxVC_congr {ti ti':TI} {v v':V} (e:mark ti=ti') (e2:v=v'):boxVC tb ti v K=boxVC tb ti' v' K:=by subst e;subst e2;rfl
@[congr] theorem litVC_congr {n:Nat} {ti ti':TI} {v v':Option (List (List D)×List Nat)} (e:mark ti=ti') (e2:v=v'):litVC tb n ti v K=litVC tb n ti' v' K:=by subst e;subst e2;rfl
@[congr] theorem loadVC_congr {t:Nat} {v v':V} (e:mark v=v'):loadVC T h t v K=loadVC T h t v' K:=by subst e;rfl
@[congr] theorem storeVC_congr {t:Nat} {v v' x x':V} (e:mark v=v') (e2:x=x'):storeVC T h tb t v x K=storeVC T h tb t v' x' K:=by subst e;subst e2;rfl
@[congr] theorem storeTo_congr {ti ti':TI} {vs vs':List V} {v v':V} (e:mark ti=ti') (e1:vs=vs') (e2:v=v'):storeTo h tb ti vs v K=storeTo h tb ti' vs' v' K:=by subst e;subst e1;subst e2;rfl
@[congr] theorem nilVC_congr {v v':V} (e:mark v=v'):nilVC h v K=nilVC h v' K:=by subst e;rfl
@[congr] theorem binVC_congr {t:Nat} {op:BinOp} {v v' x x':V} (e:mark v=v') (e2:x=x'):binVC T t op v x K=binVC T t op v' x' K:=by subst e;subst e2;rfl
@[congr] theorem intVC_congr {op:BinOp} {k k':IntKind} {a a' b b':Int} (e0:mark k=k') (e:a=a') (e2:b=b'):intVC op k a b K=intVC op k' a' b' K:=by subst e0;subst e;subst e2;rfl
@[congr] theorem strVC_congr {op:BinOp} {a a' b b':List UInt8} (e:mark a=a') (e2:b=b'):strVC op a b K=strVC op a' b' K:=by subst e;subst e2;rfl
@[congr] theorem eqlVC_congr {op:BinOp} {b b':Bool} (e:mark b=b'):eqlVC op b K=eqlVC op b' K:=by subst e;rfl
@[congr] theorem aggVC_congr {op:BinOp} {k k':TK} {a a' b b':Option (List D)} (e0:mark k=k') (e:a=a') (e2:b=b'):aggVC T op k a b K=aggVC T op k' a' b' K:=by subst e0;subst e;subst e2;rfl
@[congr] theorem ptrVC_congr {op:BinOp} {b:Bool} {k k':TK} (e0:mark k=k'):ptrVC op b k K=ptrVC op b k' K:=by subst e0;rfl
@[congr] theorem unVC_congr {op:UnOp} {v v':V} (e:mark v=v'):unVC op v K=unVC op v' K:=by subst e;rfl
@[congr] theorem convVC_congr {c c':CK} {v v':V} (e1:mark c=c') (e:v=v'):convVC h tb c v K=convVC h tb c' v' K:=by subst e1;subst e;rfl
@[congr] theorem makeVC_congr {ti ti':TI} {v v' x x':V} (e1:mark ti=ti') (e:v=v') (e2:x=x'):makeVC tb ti v x K=makeVC tb ti' v' x' K:=by subst e1;subst e;subst e2;rfl
@[congr] theorem sliceVC_congr {t:Nat} {v v':V} {a a' b b' c c':Option V} (e:mark v=v') (e1:a=a') (e2:b=b') (e3:c=c'):sliceVC T h t v a b c K=sliceVC T h t v' a' b' c' K:=by subst e;subst e1;subst e2;subst e3;rfl
@[congr] theorem faVC_congr {o o':Nat} {v v':V} (e1:mark o=o') (e:v=v'):faVC h o v K=faVC h o' v' K:=by subst e1;subst e;rfl
@[congr] theorem fieldVC_congr {f f' o o':Nat} {v v':V} (e0:mark f=f') (e1:o=o') (e:v=v'):fieldVC T f o v K=fieldVC T f' o' v' K:=by subst e0;subst e1;subst e;rfl
@[congr] theorem indexVC_congr {o o':Option Nat} {v v' x x':V} (e1:mark o=o') (e:v=v') (e2:x=x'):indexVC T h o v x K=indexVC T h o' v' x' K:=by subst e1;subst e;subst e2;rfl
@[congr] theorem strIx_congr {v v' x x':V} (e:mark v=v') (e2:x=x'):strIx v x K=strIx v' x' K:=by subst e;subst e2;rfl
@[congr] theorem extVC_congr {n:Nat} {v v':V} (e:mark v=v'):extVC n v K=extVC n v' K:=by subst e;rfl
@[congr] theorem builtinVC_congr {b:Builtin} {ts ts':List Nat} {v v':List V} (e0:mark ts=ts') (e:v=v'):builtinVC T h tb b ts v K=builtinVC T h tb b ts' v' K:=by subst e0;subst e;rfl
@[congr] theorem lenVC_congr {t t':Option TI} {v v':V} (e0:mark t=t') (e:v=v'):lenVC h t v K=lenVC h t' v' K:=by subst e0;subst e;rfl
@[congr] theorem appendVC_congr {t t' u u':Option Nat} {v v' x x':V} (e0:mark t=t') (e1:u=u') (e:v=v') (e2:x=x'):appendVC T h tb t u v x K=appendVC T h tb t' u' v' x' K:=by subst e0;subst e1;subst e;subst e2;rfl
@[congr] theorem appTo_congr {t t':TI} {v v':V} {x x':List (List D)} (e0:mark t=t') (e:v=v') (e2:x=x'):appTo h tb t v x K=appTo h tb t' v' x' K:=by subst e0;subst e;subst e2;rfl
@[congr] theorem clearVC_congr {t t':TI} {v v':V} (e0:mark t=t') (e:v=v'):clearVC h t v K=clearVC h t' v' K:=by subst e0;subst e;rfl
@[congr] theorem calleeVC_congr {v v':V} {x x':List V} (e:mark v=v') (e2:x=x'):calleeVC P h tb x v K=calleeVC P h tb x' v' K:=by subst e;subst e2;rfl
@[congr] theorem callVC_congr {f:Nat} {x x':List V} (e2:mark x=x'):callVC P h tb f x K=callVC P h tb f x' K:=by subst e2;rfl
end
def condVC (T:Tys) (P:Program) (hr hl:Hints) (x y:Code) (s:St) (K:Exit→St→Prop):V→Prop
 | .d (.bool b)=>Way b (cVC T P hr hl x s K) (cVC T P hr hl y s K)
 |_=>False
def nextK {α:Type} (st:α→St) (inv:α→Prop) (m:α→Nat) (x:α) (s:St):Prop:=∃y,s=st y∧inv y∧m y<m x
theorem next_data {α:Type} {st:α→St} {inv:α→Prop} {m:α→Nat} {x:α} {s:St} (y:α) (h0:s=st y) (hi:inv y) (hm:m y<m x):nextK st inv m x s:=⟨y,h0,hi,hm⟩
def roundK {α:Type} (keep:List Nat) (st:α→St) (inv:α→Prop) (m:α→Nat) (x:α) (K:Exit→St→Prop):Exit→St→Prop
 | .normal,s''=>nextK st inv m x (prep keep s'')
 |e,s''=>K e s''
def loopVC (T:Tys) (P:Program) (hr hl:Hints) (c:Code) (keep:List Nat) (s:St) (K:Exit→St→Prop):Prop:=
 ∃(α:Type) (st:α→St) (inv:α→Prop) (m:α→Nat),(∃x,s=st x∧inv x)∧
   ∀x,inv x→cVC T P hr hl c (st x) (roundK keep st inv m x K)
theorem loop_data {T:Tys} {P:Program} {hr hl:Hints} {c:Code} {keep:List Nat} {s:St} {K:Exit→St→Prop} {α:Type} (st:α→St) (inv:α→Prop) (m:α→Nat) (x0:α) (h0:s=st x0) (hi:inv x0)
  (h:∀x,inv x→cVC T P hr hl c (st x) (roundK keep st inv m x K)):loopVC T P hr hl c keep s K:=⟨α,st,inv,m,⟨x0,h0,hi⟩,h⟩
theorem req {p q:Prop} (h1:p) (h2:q):Req p q:=⟨h1,h2⟩
theorem way {b:Bool} {p q:Prop} (h1:b=true→p) (h2:b=false→q):Way b p q:=⟨h1,h2⟩
theorem way_dec {c:Prop} [Decidable c] {p q:Prop} (h1:c→p) (h2:¬c→q):Way (decide c) p q:=⟨fun h=>h1 (of_decide_eq_true h),fun h=>h2 (of_decide_eq_false h)⟩
theorem way_ndec {c:Prop} [Decidable c] {p q:Prop} (h1:¬c→p) (h2:c→q):Way (!decide c) p q:=⟨fun h=>h1 (by simpa using h),fun h=>h2 (by simpa using h)⟩
theorem way_not {b:Bool} {p q:Prop} (h1:b=false→p) (h2:b=true→q):Way (!b) p q:=⟨fun h=>h1 (by simpa using h),fun h=>h2 (by simpa using h)⟩
theorem wayT_dec {c:Prop} [Decidable c] {p q:Prop} (h1:c→p) (h2:¬c→q):WayG (decide c) true p q:=⟨fun h=>h1 (of_decide_eq_true h),fun h=>h2 (of_decide_eq_false h)⟩
theorem wayF_dec {c:Prop} [Decidable c] {p q:Prop} (h1:¬c→p) (h2:c→q):WayG (decide c) false p q:=⟨fun h=>h1 (of_decide_eq_false h),fun h=>h2 (of_decide_eq_true h)⟩
theorem wayT_ndec {c:Prop} [Decidable c] {p q:Prop} (h1:¬c→p) (h2:c→q):WayG (!decide c) true p q:=⟨fun h=>h1 (by simpa using h),fun h=>h2 (by simpa using h)⟩
theorem wayF_ndec {c:Prop} [Decidable c] {p q:Prop} (h1:c→p) (h2:¬c→q):WayG (!decide c) false p q:=⟨fun h=>h1 (by simpa using h),fun h=>h2 (by simpa using h)⟩
theorem wayT {b:Bool} {p q:Prop} (h1:b=true→p) (h2:b=false→q):WayG b true p q:=⟨h1,h2⟩
theorem wayF {b:Bool} {p q:Prop} (h1:b=false→p) (h2:b=true→q):WayG b false p q:=⟨h1,h2⟩
def thenK (T:Tys) (P:Program) (hr hl:Hints) (b:Code) (K:Exit→St→Prop):Exit→St→Prop
 | .normal,s'=>cVC T P hr hl b s' K
 |e,s'=>K e s'
def blockK (id:Nat) (K:Exit→St→Prop):Exit→St→Prop
 | .exit i,s'=>bif i==id then K .normal s' else K (.exit i) s'
 |e,s'=>K e s'
section
variable {T:Tys} {P:Program} {hr hl:Hints} {s:St} {K:Exit→St→Prop}
@[congr] theorem cVC_congr {c:Code} {s':St} (e:mark s=s'):cVC T P hr hl c s K=cVC T P hr hl c s' K:=by subst e;rfl
@[congr] theorem condVC_congr {x y:Code} {v v':V} (e:mark v=v'):condVC T P hr hl x y s K v=condVC T P hr hl x y s K v':=by subst e;rfl
@[congr] theorem loopVC_congr {c:Code} {k k':List Nat} {s':St} (e0:mark k=k') (e:s=s'):loopVC T P hr hl c k s K=loopVC T P hr hl c k' s' K:=by subst e0;subst e;rfl
@[congr] theorem nextK_congr {α:Type} {st:α→St} {inv:α→Prop} {m:α→Nat} {x:α} {s s':St} (h1:mark s=s'):nextK st inv m x s=nextK st inv m x s':=by subst h1;rfl
@[congr] theorem roundK_congr {α:Type} {keep:List Nat} {st:α→St} {inv:α→Prop} {m:α→Nat} {x:α} {e e':Exit} {s' s'':St} (h1:mark e=e') (h2:s'=s''):roundK keep st inv m x K e s'=roundK keep st inv m x K e' s'':=by subst h1;subst h2;rfl
@[congr] theorem Req_congr {p p' q:Prop} (h:mark p=p'):Req p q=Req p' q:=by subst h;rfl
@[congr] theorem Way_congr {b b':Bool} {p q:Prop} (h:mark b=b'):Way b p q=Way b' p q:=by subst h;rfl
@[congr] theorem WayG_congr {b b' w:Bool} {p q:Prop} (h:mark b=b'):WayG b w p q=WayG b' w p q:=by subst h;rfl
@[go_sem] theorem Req_true {q:Prop}:Req True q=q:=by simp [Req]
@[go_sem] theorem Way_true {p q:Prop}:Way true p q=p:=by simp [Way]
@[go_sem] theorem Way_false {p q:Prop}:Way false p q=q:=by simp [Way]
@[go_sem] theorem WayG_tt {p q:Prop}:WayG true true p q=p:=by simp [WayG]
@[go_sem] theorem WayG_ff {p q:Prop}:WayG false false p q=p:=by simp [WayG]
@[go_sem] theorem WayG_tf {p q:Prop}:WayG true false p q=q:=by simp [WayG]
@[go_sem] theorem WayG_ft {p q:Prop}:WayG false true p q=q:=by simp [WayG]
@[congr] theorem thenK_congr {b:Code} {e e':Exit} {s':St} (h1:mark e=e') (h2:s=s'):thenK T P hr hl b K e s=thenK T P hr hl b K e' s':=by subst h1;subst h2;rfl
@[congr] theorem blockK_congr {b:Nat} {e e':Exit} {s':St} (h1:mark e=e') (h2:s=s'):blockK b K e s=blockK b K e' s':=by subst h1;subst h2;rfl
@[congr] theorem seqVC_congr {all l:List Oper} {i i':Nat} {s':St} {K:St→Prop} (e0:mark i=i') (e:s=s'):seqVC T P all i l s K=seqVC T P all i' l s' K:=by subst e0;subst e;rfl
@[congr] theorem drawVC_congr {all l:List Oper} {i i':Nat} {s':St} {fs:List Foot} {K:St→List Foot→Prop} (e0:mark i=i') (e:s=s'):drawVC T P all i l s fs K=drawVC T P all i' l s' fs K:=by subst e0;subst e;rfl
@[congr] theorem commP_congr {n n':Nat} {all:List Oper} {fs:List Foot} (e:mark n=n'):commP n all fs=commP n' all fs:=by subst e;rfl
@[go_sem] theorem c_skip:cVC T P hr hl .skip s K=K .normal s:=rfl
@[go_sem] theorem c_seq {a b:Code}:cVC T P hr hl (.seq a b) s K=cVC T P hr hl a s (thenK T P hr hl b K):=by
 simp only [cVC];congr 1;funext e s';cases e<;>rfl
@[go_sem] theorem c_region {id:Nat} {ops:List Oper}:cVC T P hr hl (.region id ops.toArray false) s K=seqVC T P ops 0 ops (prep (hr id) s) (K .normal):=rfl
@[go_sem] theorem c_draw {id:Nat} {ops:List Oper}:cVC T P hr hl (.region id ops.toArray true) s K=
  drawVC T P ops 0 ops (prep (hr id) s) [] fun s' fs=>Req (commP 0 ops fs) (K .normal s'):=rfl
@[go_sem] theorem c_cond {c:Operand} {x y:Code}:cVC T P hr hl (.cond c x y) s K=condVC T P hr hl x y s K (ev s.env c):=by
 simp only [cVC];generalize ev s.env c=v;cases v with
 |d x=>cases x<;>rfl
 |_=>rfl
@[go_sem] theorem c_block {id:Nat} {c:Code}:cVC T P hr hl (.block id c) s K=cVC T P hr hl c s (blockK id K):=by
 simp only [cVC];congr 1;funext e s';cases e<;>simp only [blockK]
 rename_i i;by_cases h:i=id<;>simp [h]
@[go_sem] theorem c_loop {c:Code}:cVC T P hr hl (.loop c) s K=loopVC T P hr hl c (hl (firstRegion c)) (prep (hl (firstRegion c)) s) K:=by
 simp only [cVC,loopVC]
 congr 1;funext α;congr 1;funext st;congr 1;funext inv;congr 1;funext m;congr 1
 refine forall_congr fun x=>?_
 refine forall_congr fun hx=>?_
 congr 1;funext e s';cases e<;>rfl
@[go_sem] theorem c_exit {id:Nat}:cVC T P hr hl (.exit id) s K=K (.exit id) s:=rfl
@[go_sem] theorem c_ret:cVC T P hr hl .ret s K=K .ret s:=rfl
@[go_sem] theorem c_label {l:Nat}:cVC T P hr hl (.label l) s K=K .normal s:=rfl
end
end Go.Rx
