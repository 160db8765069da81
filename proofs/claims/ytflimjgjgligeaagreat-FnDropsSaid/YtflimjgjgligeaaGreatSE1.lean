/-
  Part E1: lemmas on an evaluator over plain data of the model's code, plain laws on lists and numbers, or contracts of functions of the program; each lemma names its conditions.
-/
import Derived.Orders
import Derived.Below
import Derived.Laws.IdiomCopy
import Derived.Laws.Rows
import Derived.Laws.OwnMore
import Derived.Laws.MakeOwn
import Derived.Deep.MidRow

set_option linter.unusedSimpArgs false
set_option linter.unusedVariables false
namespace Go.Rx
open Go Go.RowKit
inductive D where
 |int (k:IntKind) (n:Int)
 |bool (b:Bool)
 |str (s:List UInt8)
 |sl (xs:List (List D))
 |agg (cs:List D)
 |ptr (cs:List D)
 |clo (f:FuncId) (cs:List D)
 |nilp
 |und
instance:Inhabited D:=⟨.und⟩
def MAX:Nat:=140737488355328
def LEN:Nat:=9223372036854775807
inductive DRel (w:World) (ok:Nat→Prop):D→Value→Prop
 |int (k:IntKind) (n:Int):DRel w ok (.int k n) (.int k n)
 |bool (b:Bool):DRel w ok (.bool b) (.bool b)
 |str (s:List UInt8) (h:s.length≤LEN):DRel w ok (.str s) (.string ⟨⟨s⟩⟩)
 |sl0 (A:Option Addr) (c:Nat):DRel w ok (.sl []) (.slice A 0 c)
 |sl (xs:List (List D)) (m b o cap:Nat) (vs:Nat→Value) (hc:xs.length≤cap) (hm:xs.length≤LEN) (hb:ok b) (hl:∀e∈xs,e.length=m)
   (hv:∀(i:Nat) e (j:Nat) d,xs[i]? =some e→e[j]? =some d→w.cell? ⟨b,o+(i*m+j),none⟩=some (vs (i*m+j)))
   (hd:∀(i:Nat) e (j:Nat) d,xs[i]? =some e→e[j]? =some d→DRel w ok d (vs (i*m+j))):
   DRel w ok (.sl xs) (.slice (some ⟨b,o,none⟩) xs.length cap)
 |agg (cs:List D) (vs:List Value) (hl:cs.length=vs.length) (hd:∀(i:Nat) d v,cs[i]? =some d→vs[i]? =some v→DRel w ok d v):
   DRel w ok (.agg cs) (.agg ⟨vs⟩)
 |ptr (cs:List D) (b o:Nat) (vs:Nat→Value) (hb:ok b) (hv:∀(j:Nat) d,cs[j]? =some d→w.cell? ⟨b,o+j,none⟩=some (vs j))
   (hd:∀(j:Nat) d,cs[j]? =some d→DRel w ok d (vs j)):DRel w ok (.ptr cs) (.pointer (some ⟨b,o,none⟩))
 |clo (f:FuncId) (cs:List D) (vs:List Value) (hl:cs.length=vs.length) (hd:∀(i:Nat) d v,cs[i]? =some d→vs[i]? =some v→DRel w ok d v):
   DRel w ok (.clo f cs) (.func (.func f) #[] ⟨vs⟩)
 |nilp:DRel w ok .nilp (.pointer none)
 |und:DRel w ok .und undef
theorem DRel.mono {w w':World} {ok ok':Nat→Prop} {d:D} {v:Value} (h:DRel w ok d v)
  (hw:∀b,ok b→w'.heap[b]? =w.heap[b]?) (hok:∀b,ok b→ok' b):DRel w' ok' d v:=by
 induction h with
 |int k n=>exact .int k n
 |bool b=>exact .bool b
 |str s h=>exact .str s h
 |sl0 A c=>exact .sl0 A c
 |sl xs m b o cap vs hc hm hb hl hv hd ih=>
  exact .sl xs m b o cap vs hc hm (hok b hb) hl (fun i e j d h1 h2=>(World.cell?_of_block (w:=w) (hw b hb)).trans (hv i e j d h1 h2)) ih
 |agg cs vs hl hd ih=>exact .agg cs vs hl ih
 |ptr cs b o vs hb hv hd ih=>exact .ptr cs b o vs (hok b hb) (fun j d h1=>(World.cell?_of_block (w:=w) (hw b hb)).trans (hv j d h1)) ih
 |clo f cs vs hl hd ih=>exact .clo f cs vs hl ih
 |nilp=>exact .nilp
 |und=>exact .und
inductive V where
 |d (x:D)
 |ref (n off:Nat)
 |el (n i j:Nat)
 |own (n off len:Nat)
 |nils
 |agg (vs:List V)
 |tup (vs:List V)
 |clo (f:FuncId) (vs:List V)
 |dead
instance:Inhabited V:=⟨.dead⟩
inductive AObj where
 |box (cells:List V)
 |arr (m:Nat) (xs:List (List D))
def OwnV (w : World) (lam : Nat → Option Nat) (n m : Nat) (xs : List (List D)) (off len : Nat) (v : Value) : Prop :=
  off + len ≤ xs.length ∧
  ((lam n = none ∧ v = .slice none 0 0 ∧ len = 0) ∨
   ∃ b o cap cs T fr, lam n = some b ∧ v = .slice (some ⟨b, o, none⟩) len cap ∧ len ≤ cap ∧ (cap = 0 ∨ o = off * m) ∧
     w.heap[b]? = some (.cells cs T fr) ∧ (off + cap) * m ≤ cs.size)
inductive VRel (w:World) (ok:Nat→Prop) (lam:Nat→Option Nat) (H:Nat→Option AObj):V→Value→Prop
 |d {x:D} {v:Value} (h:DRel w ok x v):VRel w ok lam H (.d x) v
 |ref {n off:Nat} {v:Value} (h1:∃A,v= .pointer A) (h:∀o,H n=some o→∃b,lam n=some b∧v= .pointer (some ⟨b,off,none⟩)):VRel w ok lam H (.ref n off) v
 |el {n i j:Nat} {v:Value} (h1:∃A,v= .pointer A) (h:∀m xs,H n=some (.arr m xs)→i<xs.length∧∃b,lam n=some b∧v= .pointer (some ⟨b,i*m+j,none⟩)):VRel w ok lam H (.el n i j) v
 |own {n off len:Nat} {v:Value} (h1:∃A l c,v= .slice A l c) (h:∀m xs,H n=some (.arr m xs)→OwnV w lam n m xs off len v):VRel w ok lam H (.own n off len) v
 |nils:VRel w ok lam H .nils (.slice none 0 0)
 |agg {cs:List V} {vs:List Value} (hl:cs.length=vs.length) (hd:∀(i:Nat) d v,cs[i]? =some d→vs[i]? =some v→VRel w ok lam H d v):
   VRel w ok lam H (.agg cs) (.agg ⟨vs⟩)
 |tup {cs:List V} {vs:List Value} (hl:cs.length=vs.length) (hd:∀(i:Nat) d v,cs[i]? =some d→vs[i]? =some v→VRel w ok lam H d v):
   VRel w ok lam H (.tup cs) (.tuple ⟨vs⟩)
 |clo {f:FuncId} {cs:List V} {vs:List Value} (hl:cs.length=vs.length) (hd:∀(i:Nat) d v,cs[i]? =some d→vs[i]? =some v→VRel w ok lam H d v):
   VRel w ok lam H (.clo f cs) (.func (.func f) #[] ⟨vs⟩)
 |dead {v:Value}:VRel w ok lam H .dead v
inductive ZaJ (p:Nat→Prop):V→Prop
 |d (x:D):ZaJ p (.d x)
 |ref {n off:Nat} (h:p n):ZaJ p (.ref n off)
 |el {n i j:Nat} (h:p n):ZaJ p (.el n i j)
 |own {n off len:Nat} (h:p n):ZaJ p (.own n off len)
 |nils:ZaJ p .nils
 |agg {cs:List V} (h:∀v∈cs,ZaJ p v):ZaJ p (.agg cs)
 |tup {cs:List V} (h:∀v∈cs,ZaJ p v):ZaJ p (.tup cs)
 |clo {f:FuncId} {cs:List V} (h:∀v∈cs,ZaJ p v):ZaJ p (.clo f cs)
 |dead:ZaJ p .dead
def Zgg (p:Nat→Prop):AObj→Prop
 | .box cells=>∀v∈cells,ZaJ p v
 | .arr _ _=>True
theorem ZaJ.mono {p q:Nat→Prop} {v:V} (h:ZaJ p v) (hpq:∀n,p n→q n):ZaJ q v:=by
 induction h with
 |d x=>exact .d x
 |ref h=>exact .ref (hpq _ h)
 |el h=>exact .el (hpq _ h)
 |own h=>exact .own (hpq _ h)
 |nils=>exact .nils
 |agg h ih=>exact .agg ih
 |tup h ih=>exact .tup ih
 |clo h ih=>exact .clo ih
 |dead=>exact .dead
theorem Zgg.mono {p q:Nat→Prop} {o:AObj} (h:Zgg p o) (hpq:∀n,p n→q n):Zgg q o:=by
 cases o with
 |box cells=>exact fun v hv=>(h v hv).mono hpq
 |arr m xs=>trivial
theorem VRel.mono {w w':World} {ok ok':Nat→Prop} {lam lam':Nat→Option Nat} {H H':Nat→Option AObj} {p:Nat→Prop} {x:V} {v:Value}
  (h:VRel w ok lam H x v) (hg:ZaJ p x)
  (hw:∀b,ok b→w'.heap[b]? =w.heap[b]?) (hok:∀b,ok b→ok' b)
  (hl:∀n,p n→H' n≠none→lam' n=lam n)
  (hbox:∀n,p n→∀c',H' n=some (.box c')→∃c,H n=some (.box c))
  (harr:∀n,p n→∀m xs',H' n=some (.arr m xs')→∃xs,H n=some (.arr m xs)∧xs.length=xs'.length)
  (hsz:∀n b cs T fr m xs',p n→H' n=some (.arr m xs')→lam n=some b→w.heap[b]? =some (.cells cs T fr)→∃cs' T' fr',w'.heap[b]? =some (.cells cs' T' fr')∧cs'.size=cs.size):
  VRel w' ok' lam' H' x v:=by
 induction h with
 |d h=>exact .d (h.mono hw hok)
 |ref h1 h=>
  cases hg with|ref hp=>
  refine .ref h1 fun o ho=>?_;have hl':=hl _ hp (by rw [ho];simp);cases o with
  |box c'=>obtain ⟨c,hc⟩:=hbox _ hp c' ho;obtain ⟨b,hb,hv⟩:=h _ hc;exact ⟨b,hl'.trans hb,hv⟩
  |arr m xs'=>obtain ⟨xs,hx,_⟩:=harr _ hp m xs' ho;obtain ⟨b,hb,hv⟩:=h _ hx;exact ⟨b,hl'.trans hb,hv⟩
 |el h1 h=>
  cases hg with|el hp=>
  refine .el h1 fun m xs' ho=>?_;have hl':=hl _ hp (by rw [ho];simp);obtain ⟨xs,hx,hlen⟩:=harr _ hp m xs' ho;obtain ⟨hi,b,hb,hv⟩:=h _ _ hx;exact ⟨hlen▸hi,b,hl'.trans hb,hv⟩
 |own h1 h=>
  cases hg with|own hp=>
  refine .own h1 fun m xs' ho=>?_;have hl':=hl _ hp (by rw [ho];simp);obtain ⟨xs,hx,hlen⟩:=harr _ hp m xs' ho;obtain ⟨hle,hcase⟩:=h m xs hx;refine ⟨hlen▸hle,?_⟩;rcases hcase with ⟨g1,h2,h3⟩|⟨b,o,cap,cs,T,fr,g1,h2,h3,h4,h5,h6⟩
  ·exact .inl ⟨hl'.trans g1,h2,h3⟩
  ·obtain ⟨cs',T',fr',h7,h8⟩:=hsz _ b cs T fr m xs' hp ho g1 h5;exact .inr ⟨b,o,cap,cs',T',fr',hl'.trans g1,h2,h3,h4,h7,by rw [h8];exact h6⟩
 |nils=>exact .nils
 |agg hl hd ih=>
  cases hg with|agg hp=>
  exact .agg hl fun i d v h1 h2=>ih i d v h1 h2 (hp _ (List.mem_of_getElem? h1))
 |tup hl hd ih=>
  cases hg with|tup hp=>
  exact .tup hl fun i d v h1 h2=>ih i d v h1 h2 (hp _ (List.mem_of_getElem? h1))
 |clo hl hd ih=>
  cases hg with|clo hp=>
  exact .clo hl fun i d v h1 h2=>ih i d v h1 h2 (hp _ (List.mem_of_getElem? h1))
 |dead=>exact .dead
def Zcn (w : World) (ok : Nat → Prop) (lam : Nat → Option Nat) (H : Nat → Option AObj) (n : Nat) : AObj → Prop
  | .box cells => ∃ b cs T, lam n = some b ∧ w.heap[b]? = some (.cells cs T (0, 0)) ∧ cells.length = cs.size ∧
      ∀ (i : Nat) v c, cells[i]? = some v → cs[i]? = some c → VRel w ok lam H v c
  | .arr m xs => (∀ e ∈ xs, e.length = m) ∧ xs.length ≤ MAX ∧
      ((lam n = none ∧ xs = []) ∨
       ∃ b cs T fr, lam n = some b ∧ w.heap[b]? = some (.cells cs T fr) ∧ (cs.size ≤ LEN * m ∧ ∀ i, w.frozen? ⟨b, i, none⟩ = false) ∧ xs.length * m ≤ cs.size ∧
         ∀ (i : Nat) e (j : Nat) d, xs[i]? = some e → e[j]? = some d → ∃ c, cs[i * m + j]? = some c ∧ DRel w ok d c)
structure HOK (w:World) (ok:Nat→Prop) (lam:Nat→Option Nat) (H:Nat→Option AObj):Prop where
 inj:∀n n' b,H n≠none→H n'≠none→lam n=some b→lam n'=some b→n=n'
 lt:∀n b,H n≠none→lam n=some b→b<w.heap.size
 dis:∀n b,H n≠none→lam n=some b→¬ok b
 oklt:∀b,ok b→b<w.heap.size
 obj:∀n o,H n=some o→Zcn w ok lam H n o
def Zos (w w':World):Prop:=∀(k:Nat) (cs:Array Value) (T:TypeId) (fr:Nat×Nat),w.heap[k]? =some (.cells cs T fr)→
 ∃(cs':Array Value) (T':TypeId) (fr':Nat×Nat),w'.heap[k]? =some (.cells cs' T' fr')∧cs'.size=cs.size
structure Fr (U:Nat→Prop) (w w':World):Prop where
 os:w'.os=w.os
 tape:w'.tape=w.tape
 output:w'.output=w.output
 size:w.heap.size≤w'.heap.size
 block:∀k,k<w.heap.size→¬U k→w'.heap[k]? =w.heap[k]?
 sized:Zos w w'
theorem Zlc {w:World} {k:Nat} {o:Obj} (h:w.heap[k]? =some o):k<w.heap.size:=(Array.getElem?_eq_some_iff.1 h).1
theorem ZhN {w w':World} (h:∀k,k<w.heap.size→w'.heap[k]? =w.heap[k]?):Zos w w':=
 fun k cs T fr e=>⟨cs,T,fr,(h k (Zlc e)).trans e,rfl⟩
theorem Zos.trans {a b c:World} (h:Zos a b) (k:Zos b c):Zos a c:=fun i cs T fr e=>by
 obtain ⟨cs',T',fr',e',h1⟩:=h i cs T fr e;obtain ⟨cs2,T2,fr2,e2,h2⟩:=k i cs' T' fr' e';exact ⟨cs2,T2,fr2,e2,h2.trans h1⟩
theorem ZmV {w w':World} {b:Nat} {cb:Array Value} {Tb:TypeId} {fb:Nat×Nat} (hb:w'.heap[b]? =some (.cells cb Tb fb)) (hs:∀(cs:Array Value) (T:TypeId) (fr:Nat×Nat),w.heap[b]? =some (.cells cs T fr)→cb.size=cs.size)
  (h:∀k,k<w.heap.size→k≠b→w'.heap[k]? =w.heap[k]?):Zos w w':=fun k cs T fr e=>by
 by_cases hk:k=b
 ·subst hk;exact ⟨cb,Tb,fb,hb,hs cs T fr e⟩
 ·exact ⟨cs,T,fr,(h k (Zlc e) hk).trans e,rfl⟩
theorem Fr.refl (U:Nat→Prop) (w:World):Fr U w w:=⟨rfl,rfl,rfl,Nat.le_refl _,fun _ _ _=>rfl,ZhN fun _ _=>rfl⟩
end Go.Rx
namespace Go.Rx
open Go Go.RowKit
inductive Z where
 |d (x:D)
 |nils (m:Nat)
inductive TK where
 |int (k:IntKind)|bool|str|ptr|slice (e:Nat)|struct (fs:List (Nat×Nat))|other
structure TI where
 size:Nat
 bytes:Nat
 kind:TK
 zero:List Z
abbrev Tys:=Nat→Option TI
abbrev Heap:=Nat→Option AObj
abbrev Upd:=List (Nat×Option AObj)
structure St where
 env:List (Nat×V)
 H:Upd
def eget:List (Nat×V)→Nat→V
 |[],_=> .dead
 |(k,v)::l,t=>bif k==t then v else eget l t
def hget:List (Nat×AObj)→Nat→Option AObj
 |[],_=>none
 |(k,o)::l,n=>bif k==n then some o else hget l n
def uget:Upd→Nat→Option AObj
 |[],_=>none
 |(k,o)::l,n=>bif k==n then o else uget l n
def D.one:D→Bool
 | .agg _| .und=>false
 |_=>true
def V.one:V→Bool
 | .agg _| .tup _| .dead=>false
 | .d x=>x.one
 |_=>true
def V.cells:V→Option (List V)
 | .agg vs=>some vs
 | .d (.agg ds)=>some (ds.map .d)
 | .dead| .tup _| .d .und=>none
 |v=>some [v]
def Zeg:Value→V
 | .int k n=> .d (.int k n)
 | .bool b=> .d (.bool b)
 | .string s=>bif s.data.toList.length.ble 4096 then .d (.str s.data.toList) else .dead
 | .pointer none=> .d .nilp
 | .slice none 0 0=> .nils
 |_=> .dead
def Zmd:Value→V
 | .agg cs=> .agg (cs.toList.map Zeg)
 | .tuple cs=> .tup (cs.toList.map Zeg)
 |v=>Zeg v
def ev (env:List (Nat×V)):Operand→V
 | .tmp t=>eget env t
 | .const v=>Zmd v
 | .global _=> .dead
 | .func f=> .d (.clo f [])
def cD (h:Heap):V→Option (D×List Nat)
 | .d x=>some (x,[])
 | .nils=>some (.sl [],[])
 | .own n off len=>match h n with
  |some (.arr _ xs)=>some (.sl ((xs.drop off).take len),[n])
  |_=>none
 |_=>none
def cDs (h:Heap):List V→Option (List D×List Nat)
 |[]=>some ([],[])
 |v::vs=>match cD h v,cDs h vs with
  |some (x,l),some (xs,ls)=>some (x::xs,l++ls)
  |_,_=>none
def toP (h:Heap):V→Option (D×List Nat)
 | .ref n off=>match h n with
  |some (.box cells)=>match cDs h cells with
   |some (ds,ls)=>some (.ptr (ds.drop off),n::ls)
   |none=>none
  |_=>none
 |v=>cD h v
def toPs (h:Heap):List V→Option (List D×List Nat)
 |[]=>some ([],[])
 |v::vs=>match toP h v,toPs h vs with
  |some (x,l),some (xs,ls)=>some (x::xs,l++ls)
  |_,_=>none
def toD (h:Heap):V→Option (D×List Nat)
 | .agg vs=>match cDs h vs with
  |some (ds,ls)=>some (.agg ds,ls)
  |none=>none
 | .clo f vs=>match toPs h vs with
  |some (ds,ls)=>some (.clo f ds,ls)
  |none=>none
 |v=>cD h v
def renC (r:Nat→Option Nat):V→V
 | .ref n off=>match r n with|some k=> .ref k off|none=> .dead
 | .el n i j=>match r n with|some k=> .el k i j|none=> .dead
 | .own n off len=>match r n with|some k=> .own k off len|none=> .dead
 | .d x=> .d x
 | .nils=> .nils
 |_=> .dead
def renA (r:Nat→Option Nat):V→V
 | .agg vs=> .agg (vs.map (renC r))
 | .clo f vs=> .clo f (vs.map (renC r))
 |v=>renC r v
def renV (r:Nat→Option Nat):V→V
 | .tup vs=> .tup (vs.map (renA r))
 |v=>renA r v
def renO (r:Nat→Option Nat):AObj→AObj
 | .box cells=> .box (cells.map (renC r))
 | .arr m xs=> .arr m xs
def idx:List Nat→Nat→Option Nat
 |[],_=>none
 |m::l,n=>bif m==n then some 0 else (idx l n).map (·+1)
def nodup:List Nat→Bool
 |[]=>true
 |n::l=> !(l.contains n)&&nodup l
def refC:V→List Nat
 | .ref n _| .el n _ _| .own n _ _=> [n]
 |_=> []
def refA:V→List Nat
 | .agg vs| .clo _ vs=>vs.flatMap refC
 |v=>refC v
def refV:V→List Nat
 | .tup vs=>vs.flatMap refA
 |v=>refA v
def refO (h:Heap) (n:Nat):List Nat:=
 match h n with
 |some (.box cells)=>n::cells.flatMap refC
 |some (.arr _ _)=> [n]
 |none=> []
def dd:List Nat→List Nat→List Nat
 |acc,[]=>acc.reverse
 |acc,n::l=>bif acc.contains n then dd acc l else dd (n::acc) l
def order (h:Heap) (vs:List V):List Nat:=dd [] (((vs.flatMap refV).flatMap (refO h)).flatMap (refO h))
def objs (h:Heap) (r:Nat→Option Nat):Nat→List Nat→List (Nat×AObj)
 |_,[]=> []
 |k,n::l=>match h n with
  |some o=>(k,renO r o)::objs h r (k+1) l
  |none=>objs h r (k+1) l
def cap (l:List Nat):List Nat:=bif decide (l.length<1000) then l else []
def prep (keep:List Nat) (s:St):St:=
 let vs:=keep.map (eget s.env)
 let o:=cap (order (uget s.H) vs)
 {env:=keep.zip (vs.map (renV (idx o))),H:=(objs (uget s.H) (idx o) 0 o).map fun p=>(p.1,some p.2)}
def ZaN (T:Tys) (t:Nat):Nat:=match T t with|some i=>i.size|none=>0
def Zf1 (T:Tys) (t:Nat):Bool:=match T t with|some ⟨_,_,.struct _,_⟩=>true|_=>false
def Zeb (T:Tys) (t:Nat):Bool:=match T t with|some _=>true|none=>false
def Zca (T:Tys) (t:Nat):Option Nat:=match T t with|some ⟨_,_,.slice e,_⟩=>some e|_=>none
def ZbK (tb:Nat):Nat→List V→List Z→List V×Upd
 |_,[],_=>([],[])
 |k,v::vs,zs=>
  let r:=ZbK tb (k+1) vs (zs.drop 1)
  match v,zs with
  | .nils,.nils m::_=>(.own (tb+1+k) 0 0::r.1,(tb+1+k,some (.arr m []))::r.2)
  |v,_=>(v::r.1,r.2)
def Zfh:List Z→List V
 |[]=> []
 | .d x::l=> .d x::Zfh l
 | .nils _::l=> .nils::Zfh l
def Zf9:List Z→List D
 |[]=> []
 | .d x::l=>x::Zf9 l
 | .nils _::l=> .sl []::Zf9 l
def Zg3 (cs:List V) (off:Nat) (vs:List V):List V:=cs.take off++vs++cs.drop (off+vs.length)
def ZgF (T:Tys) (t:Nat) (cs:List V) (off:Nat):V:=
 bif Zf1 T t then .agg ((cs.drop off).take (ZaN T t)) else (match cs.drop off with|v::_=>v|[]=> .dead)
def Zcq (T:Tys) (t f:Nat):Option (Nat×Nat):=match T t with
 |some ⟨_,_,.struct fs,_⟩=>fs[f]?
 |_=>none
def eqT:TK→D→D→Option Bool
 | .int _,.int k a,.int k' b=>if k=k' then some (decide (a=b)) else none
 | .bool,.bool a,.bool b=>some (a==b)
 | .str,.str a,.str b=>some (decide (a=b))
 |_,_,_=>none
def Zgd (T:Tys) (t:Nat):TK:=match T t with|some i=>i.kind|none=> .other
def eqO:TK→Option D→Option D→Option Bool
 |k,some x,some y=>eqT k x y
 |_,_,_=>none
def andO:Option Bool→Option Bool→Option Bool
 |some a,some b=>some (a&&b)
 |_,_=>none
def eqFs (T:Tys):List (Nat×Nat)→List D→List D→Option Bool
 |[],_,_=>some true
 |(off,ft)::fs,xs,ys=>andO (eqO (Zgd T ft) xs[off]? ys[off]?) (eqFs T fs xs ys)
def Zl2:List V→Option (List D)
 |[]=>some []
 | .d x::vs=>(Zl2 vs).map (x::·)
 |_=>none
def scal:V→Option (List D)
 | .agg vs=>Zl2 vs
 | .d (.agg ds)=>some ds
 |_=>none
def Zax:List UInt8→List UInt8→Bool:=Op.bytesLess
abbrev OK:=V→Upd→Prop
def Req (p q:Prop):Prop:=p∧q
def Way (b:Bool) (p q:Prop):Prop:=(b=true→p)∧(b=false→q)
def WayG (b want:Bool) (p q:Prop):Prop:=(b=want→p)∧(b= !want→q)
def Zab {α:Type}:Option α→(α→Prop)→Prop
 |some x,K=>K x
 |none,_=>False
def ZjB:Option AObj→(List V→Prop)→Prop
 |some (.box cs),K=>K cs
 |_,_=>False
def Zb2:Option AObj→(Nat→List (List D)→Prop)→Prop
 |some (.arr m xs),K=>K m xs
 |_,_=>False
def ZjA:Option AObj→Prop→Prop
 |some _,K=>K
 |none,_=>False
def onInt:V→(IntKind→Int→Prop)→Prop
 | .d (.int k n),K=>K k n
 |_,_=>False
def ZcP (op:BinOp) (k:IntKind) (a b:Int) (K:OK):Prop:=match op with
 | .add=>K (.d (.int k (k.wrap (a+b)))) []
 | .sub=>K (.d (.int k (k.wrap (a - b)))) []
 | .mul=>K (.d (.int k (k.wrap (a*b)))) []
 | .quo=>Req (b≠0) (K (.d (.int k (k.wrap (a.tdiv b)))) [])
 | .rem=>Req (b≠0) (K (.d (.int k (a.tmod b))) [])
 | .and=>K (.d (.int k (k.wrap (BitVec.ofInt k.bits a&&&BitVec.ofInt k.bits b).toNat))) []
 | .or=>K (.d (.int k (k.wrap (BitVec.ofInt k.bits a|||BitVec.ofInt k.bits b).toNat))) []
 | .xor=>K (.d (.int k (k.wrap (BitVec.ofInt k.bits a ^^^ BitVec.ofInt k.bits b).toNat))) []
 | .shl=>Req (0≤b) (K (.d (.int k (k.wrap (a*2 ^ min b.toNat k.bits)))) [])
 | .shr=>Req (0≤b) (K (.d (.int k (a.fdiv (2 ^ min b.toNat k.bits)))) [])
 | .eql=>K (.d (.bool (decide (a=b)))) []
 | .neq=>K (.d (.bool (!decide (a=b)))) []
 | .lss=>K (.d (.bool (decide (a<b)))) []
 | .leq=>K (.d (.bool (decide (a≤b)))) []
 | .gtr=>K (.d (.bool (decide (b<a)))) []
 | .geq=>K (.d (.bool (decide (b≤a)))) []
 |_=>False
def Zg1 (op:BinOp) (a b:List UInt8) (K:OK):Prop:=match op with
 | .add=>Req (a.length+b.length≤LEN) (K (.d (.str (a++b))) [])
 | .eql=>K (.d (.bool (decide (a=b)))) []
 | .neq=>K (.d (.bool (!decide (a=b)))) []
 | .lss=>K (.d (.bool (Zax a b))) []
 | .leq=>K (.d (.bool (!Zax b a))) []
 | .gtr=>K (.d (.bool (Zax b a))) []
 | .geq=>K (.d (.bool (!Zax a b))) []
 |_=>False
def ZfC:BinOp→Bool
 | .shl| .shr=>true
 |_=>false
def Zj8 (op:BinOp) (b:Bool) (K:OK):Prop:=match op with
 | .eql=>K (.d (.bool b)) []
 | .neq=>K (.d (.bool (!b))) []
 |_=>False
def Zkp (T:Tys) (op:BinOp):TK→Option (List D)→Option (List D)→OK→Prop
 | .struct fs,some xs,some ys,K=>Zab (eqFs T fs xs ys) fun b=>Zj8 op b K
 |_,_,_,_=>False
def Zl9 (op:BinOp) (b:Bool):TK→OK→Prop
 | .ptr,K=>Zj8 op b K
 |_,_=>False
def ZgT (T:Tys) (t:Nat) (op:BinOp):V→V→OK→Prop
 | .d (.int k a),.d (.int k' b),K=>Req ((ZfC op=true∨k=k')) (ZcP op k a b K)
 | .d (.str a),.d (.str b),K=>Zg1 op a b K
 | .d (.bool a),.d (.bool b),K=>Zab (eqT (Zgd T t) (.bool a) (.bool b)) fun b=>Zj8 op b K
 | .d .nilp,.d .nilp,K=>Zl9 op true (Zgd T t) K
 | .d (.ptr _),.d .nilp,K=>Zl9 op false (Zgd T t) K
 |x,y,K=>Zkp T op (Zgd T t) (scal x) (scal y) K
def ZzQ (P:Program) (f:FuncId):Prop:=∃fn,P.funcs[f]? =some fn∧(fn.name== "runtime.NumGoroutine")=false∧fn.body.isNone=false
def ZQ (P:Program) (f:FuncId) (args:List V) (H:List (Nat×AObj)) (outs:List V) (res:V) (H':List (Nat×AObj)):Prop:=
 ZzQ P f∧∀(w:World) (vs:List Value) (lam:Nat→Option Nat) (ok:Nat→Prop),
  HOK w ok lam (hget H)→args.length=vs.length→(∀(i:Nat) x v,args[i]? =some x→vs[i]? =some v→VRel w ok lam (hget H) x v)→
  Calls P f ⟨vs⟩ w fun e w'=>∃v lam' ok',
   e= .returned v∧Fr (fun b=>∃n,hget H n≠none∧lam n=some b) w w'∧HOK w' ok' lam' (hget H')∧
   VRel w' ok' lam' (hget H') res v∧
   (∀(i:Nat) x v,outs[i]? =some x→vs[i]? =some v→VRel w' ok' lam' (hget H') x v)∧
   (∀b,ok' b→ok b∨(∃n,hget H n≠none∧lam n=some b)∨w.heap.size≤b)∧
   (∀n b,hget H' n≠none→lam' n=some b→(∃n',hget H n'≠none∧lam n'=some b)∨w.heap.size≤b)
inductive Arg where
 |dat (x:D)
 |box (n:Nat)
 |own (n off len:Nat)
 |nils
def Zdt (h:Heap) (v:V) (as:List Arg) (ps bs:List Nat):Option (List Arg×List Nat×List Nat):=match toD h v with
 |some (x,l)=>some (.dat x::as,ps,l++bs)
 |none=>none
def Zb8 (h:Heap) (as:List Arg) (ps bs:List Nat):Bool→V→Option (List Arg×List Nat×List Nat)
 |_,.ref n 0=>match h n with
  |some (.box _)=>some (.box n::as,refO h n++ps,bs)
  |_=>none
 |true,.own n off len=>match h n with
  |some (.arr _ _)=>some (.own n off len::as,n::ps,bs)
  |_=>none
 |true,.nils=>some (.nils::as,ps,bs)
 |_,v=>Zdt h v as ps bs
def ZbT (h:Heap):List Bool→List V→Option (List Arg×List Nat×List Nat)
 |_,[]=>some ([],[],[])
 |ms,v::vs=>match ZbT h (ms.drop 1) vs with
  |none=>none
  |some (as,ps,bs)=>Zb8 h as ps bs (ms.headD false) v
def Arg.name? :Arg→Option Nat
 | .box n=>some n
 | .own n _ _=>some n
 |_=>none
def argV (ps:List Nat):Arg→V
 | .dat x=> .d x
 | .box n=>renC (idx ps) (.ref n 0)
 | .own n off len=>renC (idx ps) (.own n off len)
 | .nils=> .nils
def ZbL:List Arg→List V→Nat→Option Nat
 | .box n::as,.ref k _::os,j=>bif k==j then some n else ZbL as os j
 | .own n _ _::as,.own k _ _::os,j=>bif k==j then some n else ZbL as os j
 |_::as,_::os,j=>ZbL as os j
 |_,_,_=>none
def Zdw:List (Nat×AObj)→Nat→Bool
 |[],_=>false
 |(k,_)::l,n=>k==n||Zdw l n
def Zjz:Option Nat→Bool→Nat→Option Nat
 |some n,_,_=>some n
 |none,true,k=>some k
 |none,false,_=>none
def back (tb:Nat) (as:List Arg) (outs:List V) (H':List (Nat×AObj)) (j:Nat):Option Nat:=
 Zjz (ZbL as outs j) (Zdw H' j) (tb+j)
def Zpd:Option AObj→Bool
 |some (.box _)=>true
 |_=>false
def Zza:Option AObj→Bool
 |some (.arr _ _)=>true
 |_=>false
def Zaw (H':List (Nat×AObj)):List Arg→List V→Bool
 |[],[]=>true
 | .box _::as,.ref k 0::os=>Zpd (hget H' k)&&Zaw H' as os
 | .own _ _ _::as,.own k _ _::os=>Zza (hget H' k)&&Zaw H' as os
 | .own _ _ _::as,.dead::os=>Zaw H' as os
 | .dat _::as,_::os=>Zaw H' as os
 | .nils::as,_::os=>Zaw H' as os
 |_,_=>false
def Zt6:Option AObj→Option AObj→Prop
 |some (.arr m xs),some (.arr m' xs')=>m=m'∧xs.length=xs'.length
 |_,_=>True
def ZdY (h:Heap) (H':List (Nat×AObj)):List Arg→List V→Prop
 | .own n _ _::as,.own k _ _::os=>Zt6 (h n) (hget H' k)∧ZdY h H' as os
 |_::as,_::os=>ZdY h H' as os
 |_,_=>True
def ZcC (H':List (Nat×AObj)):Bool:=nodup (H'.map (·.1))&&H'.all fun q=>Nat.blt q.1 1000
inductive Flat:D→Prop
 |int (k:IntKind) (n:Int):Flat (.int k n)
 |bool (b:Bool):Flat (.bool b)
 |str (s:List UInt8):Flat (.str s)
 |nil:Flat (.sl [])
 |agg {cs:List D} (h:∀d∈cs,Flat d):Flat (.agg cs)
 |nilp:Flat .nilp
 |und:Flat .und
inductive ZcQ:V→Prop
 |d {x:D} (h:Flat x):ZcQ (.d x)
 |ref (n off:Nat):ZcQ (.ref n off)
 |el (n i j:Nat):ZcQ (.el n i j)
 |own (n off len:Nat):ZcQ (.own n off len)
 |nils:ZcQ .nils
 |agg {vs:List V} (h:∀v∈vs,ZcQ v):ZcQ (.agg vs)
 |tup {vs:List V} (h:∀v∈vs,ZcQ v):ZcQ (.tup vs)
 |dead:ZcQ .dead
def ZkM:AObj→Prop
 | .box cells=>∀v∈cells,ZcQ v
 | .arr _ xs=>∀e∈xs,∀d∈e,Flat d
def ZhJ (H:List (Nat×AObj)):Prop:=∀p∈H,ZkM p.2
def Zga (tb:Nat) (as:List Arg) (outs:List V) (gone:List Nat) (H':List (Nat×AObj)):Upd:=
 gone.map (·,none)++H'.map fun p=>((back tb as outs H' p.1).getD 0,some (renO (back tb as outs H') p.2))
def Zjn:V→Bool
 | .agg _| .tup _| .clo _ _=>false
 |_=>true
def Zpt (b:Bool) (v:V):List V:=match b,v with
 |true,.agg cs=>bif cs.all Zjn then cs else [.agg cs]
 |_,v=> [v]
def grp1 (b:Bool) (v:V) (fl:List V):V:=match b,v with
 |true,.agg cs=>bif cs.all Zjn then .agg fl else fl.headD .dead
 |_,_=>fl.headD .dead
def Zgf:List Bool→List V→List V
 |[],vs=>vs
 |_::_,[]=> []
 |b::sh,v::vs=>Zpt b v++Zgf sh vs
def grpA:List Bool→List V→List V→List V
 |[],_,fl=>fl
 |_::_,[],_=> []
 |b::sh,v::vs,fl=>grp1 b v (fl.take (Zpt b v).length)::grpA sh vs (fl.drop (Zpt b v).length)
def Z2 (P : Program) (h : Heap) (tb : Nat) (f : FuncId) (args : List V) (K : OK) : Prop :=
  ∃ sh ms as ps bs outs res H', ZbT h ms (Zgf sh args) = some (as, ps, bs) ∧ (nodup ps && nodup (as.filterMap Arg.name?) && ps.all fun n => !bs.contains n) = true ∧
    ZQ P f (grpA sh args (as.map (argV ps))) (objs h (idx ps) 0 ps) (grpA sh args outs) res H' ∧ (Zaw H' as outs && ZcC H') = true ∧ ZdY h H' as outs ∧
      (((bs = [] ∨ (ZcQ res ∧ ZhJ H')) ∧ K (renV (back tb as outs H') res) (Zga tb as outs ps H')) ∨
       K (renV (back tb as outs H') res) (Zga tb as outs (bs ++ ps) H'))
def Zhn:Option TI→Bool
 |some ⟨_,_,.str,_⟩=>true
 |_=>false
def isSl:Option TI→Bool
 |some ⟨_,_,.slice _,_⟩=>true
 |_=>false
def Zgc (h:Heap) (t:Option TI):V→OK→Prop
 | .d (.str s),K=>Req (Zhn t=true) (K (.d (.int .i64 s.length)) [])
 | .d (.sl xs),K=>Req (isSl t=true) (K (.d (.int .i64 xs.length)) [])
 | .own n _ len,K=>Req (isSl t=true) (Zb2 (h n) fun _ _=>K (.d (.int .i64 len)) [])
 | .nils,K=>Req (isSl t=true) (K (.d (.int .i64 0)) [])
 |_,_=>False
def fits (e:TI) (n:Nat) (ys:List (List D)):Prop:=
 e.zero.length=e.size∧e.bytes≤4096∧n≤4294967296∧(∀c∈ys,c.length=e.size)∧(∀c∈ys,∀d∈c,d.one=true)
def Zex (h:Heap) (tb:Nat) (e:TI):V→List (List D)→OK→Prop
 | .own n 0 len,ys,K=>Zb2 (h n) fun m xs=>Req (m=e.size) (Req (fits e (len+ys.length) ys) (K (.own tb 0 (len+ys.length)) [(n,none),(tb,some (.arr m (xs.take len++ys)))]))
 | .nils,ys,K=>Req (fits e ys.length ys) (K (.own tb 0 ys.length) [(tb,some (.arr e.size ys))])
 |_,_,_=>False
def slOf:Option (D×List Nat)→Option (List (List D))
 |some (.sl ys,_)=>some ys
 |_=>none
def ZkC (T:Tys):Option Nat→Bool
 |some t=>isSl (T t)||Zhn (T t)
 |none=>false
def Zgo (T:Tys):Option Nat→Bool
 |some t=>match T t with
  |some ⟨_,_,.int _,_⟩=>true
  |_=>false
 |none=>false
def appZ (tb:Nat) (e:TI):V→V→OK→Prop
 | .nils,.d (.int _ n),K=>Req (0<n) (Req (n≤4294967296) (Req (e.bytes≤4096) (Req (e.zero.length=e.size) (K (.own tb 0 n.toNat) [(tb,some (.arr e.size (List.replicate n.toNat (Zf9 e.zero))))]))))
 |_,_,_=>False
def Sel (b:Bool) (p q:Prop):Prop:=bif b then p else q
def ZcO (T:Tys) (h:Heap) (tb:Nat) (ty ty2:Option Nat) (s x:V) (K:OK):Prop:=
 Sel (Zgo T ty2) (Zab (ty.bind (Zca T)) fun e=>Zab (T e) fun i=>appZ tb i s x K)
  (Req (ZkC T ty2=true) (Zab (ty.bind (Zca T)) fun e=>Zab (T e) fun i=>Zab (slOf (toD h x)) fun ys=>Zex h tb i s ys K))
def Zhc (isMin:Bool):V→V→Option V
 | .d (.int k x),.d (.int k' y)=>if k=k' then some (.d (.int k (bif isMin then (if y<x then y else x) else (if x<y then y else x)))) else none
 | .d (.str x),.d (.str y)=>some (.d (.str (bif isMin then (bif !Zax y x then x else y) else (bif Zax x y then y else x))))
 |_,_=>none
def Zez (xs:List (List D)) (off n:Nat) (z:List D):List (List D):=xs.take off++List.replicate n z++xs.drop (off+n)
def Zew (h:Heap) (ti:TI):V→OK→Prop
 | .own n off len,K=>Zb2 (h n) fun m xs=>Req (m=ti.size) (Req (ti.zero.length=ti.size) (K (.tup []) [(n,some (.arr m (Zez xs off len (Zf9 ti.zero))))]))
 |_,_=>False
def ZaC (T:Tys) (h:Heap) (tb:Nat) (b:Builtin) (argTypes:List Nat):List V→OK→Prop
 |[x],K=>match b with
  | .len=>Zgc h (argTypes.head?.bind T) x K
  | .clear=>Zab ((argTypes.head?.bind (Zca T)).bind T) fun ti=>Zew h ti x K
  |_=>False
 |[x,y],K=>match b with
  | .append=>ZcO T h tb argTypes.head? argTypes[1]? x y K
  | .min=>Zab (Zhc true x y) fun v=>K v []
  | .max=>Zab (Zhc false x y) fun v=>K v []
  |_=>False
 |_,_=>False
def Zec:Option V→Int→Option Int
 |none,d=>some d
 |some (.d (.int _ n)),_=>some n
 |_,_=>none
def ZaS (T:Tys) (h:Heap) (t:Nat):V→Option V→Option V→Option V→OK→Prop
 | .d (.str s),lo,hi,none,K=>Req (Zhn (T t)=true) (Zab (Zec lo 0) fun l=>Zab (Zec hi s.length) fun h=>
   Req (0≤l) (Req (l≤h) (Req (h≤s.length) (K (.d (.str ((s.take h.toNat).drop l.toNat))) []))))
 | .d (.sl xs),lo,hi,none,K=>Zab (Zca T t) fun e=>Req (Zeb T e=true) (Req ((∀c∈xs,c.length=ZaN T e)) (Zab (Zec lo 0) fun l=>Zab (Zec hi xs.length) fun h=>
   Req (0≤l) (Req (l≤h) (Req (h≤xs.length) (K (.d (.sl ((xs.take h.toNat).drop l.toNat))) [])))))
 | .own n off len,lo,hi,none,K=>Zab (Zca T t) fun e=>Zb2 (h n) fun m xs=>Req (Zeb T e=true) (Req (m=ZaN T e) (Zab (Zec lo 0) fun l=>Zab (Zec hi len) fun h=>
   Req (0≤l) (Req (l≤h) (Req (h≤len) (K (.own n (off+l.toNat) (h.toNat - l.toNat)) [])))))
 | .nils,lo,hi,none,K=>Zab (Zca T t) fun e=>Req (Zeb T e=true) (Zab (Zec lo 0) fun l=>Zab (Zec hi 0) fun h=>Req (l=0) (Req (h=0) (K .nils [])))
 |_,_,_,_,_=>False
def lget (xs:List (List D)) (i:Nat):List D:=xs.getD i []
def Zb7 (T:Tys) (h:Heap) (e:Option Nat):V→V→OK→Prop
 | .d (.sl xs),i,K=>Zab e fun e=>Req (Zeb T e=true) (onInt i fun _ i=>Req (0≤i) (Req (i<xs.length) (Req ((lget xs i.toNat).length=ZaN T e) (K (.d (.ptr (lget xs i.toNat))) []))))
 | .own n off len,i,K=>Zab e fun e=>Req (Zeb T e=true) (onInt i fun _ i=>Zb2 (h n) fun m xs=>Req (0≤i) (Req (i<len) (Req (off+len≤xs.length) (Req (m=ZaN T e) (K (.el n (off+i.toNat) 0) [])))))
 |_,_,_=>False
def Znn (T:Tys) (t n:Nat):Prop:=ZaN T t≤n∧0<ZaN T t∧(Zf1 T t||ZaN T t==1)=true
def Zcy (T:Tys) (h:Heap) (t:Nat):V→OK→Prop
 | .ref n off,K=>ZjB (h n) fun cells=>Req (Znn T t (cells.length - off)) (K (ZgF T t cells off) [])
 | .el n i j,K=>Zb2 (h n) fun m xs=>Req (i<xs.length) (Req (Znn T t (m - j)) (K (ZgF T t ((lget xs i).map .d) j) []))
 | .d (.ptr cs),K=>Req (Znn T t cs.length) (K (ZgF T t (cs.map .d) 0) [])
 |_,_=>False
def ZdU (h:Heap) (tb:Nat) (ti:TI) (vs:List V):V→OK→Prop
 | .ref n off,K=>ZjB (h n) fun cells=>Req (off+ti.size≤cells.length) (K (.d .und) ((ZbK tb 0 vs ti.zero).2++[(n,some (.box (Zg3 cells off (ZbK tb 0 vs ti.zero).1)))]))
 | .el n i j,K=>Zb2 (h n) fun m xs=>Zab (cDs h vs) fun p=>Req (i<xs.length) (Req (j+ti.size≤m) (Req ((p.2.contains n)=false) (K (.d .und) (p.2.map (·,none)++[(n,some (.arr m (xs.set i ((lget xs i).take j++p.1++(lget xs i).drop (j+p.1.length)))))]))))
 |_,_=>False
def Zgu (T:Tys) (h:Heap) (tb:Nat) (t:Nat) (p x:V) (K:OK):Prop:=
 Zab (T t) fun ti=>Zab x.cells fun vs=>Req (vs.length=ti.size) (Req (ti.size≤900) (Req ((vs.all V.one)=true) (ZdU h tb ti vs p K)))
def Zfx (h:Heap):Bool→Option (List V)→Option (List D×List Nat)
 |true,some vs=>cDs h vs
 |_,_=>none
def ZbM (h:Heap):Nat→List (Nat×V)→Option (List (List D)×List Nat)
 |_,[]=>some ([],[])
 |k,(i,v)::l=>match Zfx h (i==k) v.cells,ZbM h (k+1) l with
  |some (ds,ls),some (es,ms)=>some (ds::es,ls++ms)
  |_,_=>none
def Zgr (T:Tys) (fs:List (Nat×Nat)) (n:Nat):List V→List (Nat×V)→Option (List V)
 |cs,[]=>some cs
 |cs,(i,v)::l=>match fs[i]?,v.cells with
  |some (off,t),some vs=>bif vs.length==ZaN T t&&(off+vs.length).ble n&&Zeb T t then Zgr T fs n (Zg3 cs off vs) l else none
  |_,_=>none
def ZeX:Option TI→Option (List (Nat×Nat)×Nat×List Z)
 |some ⟨n,_,.struct fs,z⟩=>some (fs,n,z)
 |_=>none
inductive CK where
 |int (k:IntKind)|str|toBytes|toStr|no
def isU8:Option TI→Bool
 |some ⟨_,_,.int .u8,_⟩=>true
 |_=>false
def Zfa:Option TI→Option TI→(Nat→Option TI)→CK
 |some ⟨_,_,.int _,_⟩,some ⟨_,_,.int k,_⟩,_=> .int k
 |some ⟨_,_,.str,_⟩,some ⟨_,_,.str,_⟩,_=> .str
 |some ⟨_,_,.str,_⟩,some ⟨_,_,.slice e,_⟩,T=>bif isU8 (T e) then .toBytes else .no
 |some ⟨_,_,.slice e,_⟩,some ⟨_,_,.str,_⟩,T=>bif isU8 (T e) then .toStr else .no
 |_,_,_=> .no
def ZaU (b:UInt8):List D:=[.int .u8 b.toNat]
def ZhB:List D→UInt8
 |[.int .u8 n]=>UInt8.ofNat n.toNat
 |_=>0
def Zbm (h:Heap) (tb:Nat):CK→V→OK→Prop
 | .int k,.d (.int _ n),K=>K (.d (.int k (k.wrap n))) []
 | .str,.d (.str s),K=>K (.d (.str s)) []
 | .toStr,x,K=>Zab (slOf (toD h x)) fun xs=>Req ((xs.map ZhB).map ZaU=xs) (K (.d (.str (xs.map ZhB))) [])
 |_,_,_=>False
def Zia (tb:Nat) (ti:TI) (K:OK):Prop:=
 Req (ti.zero.length=ti.size) (Req (ti.size≤900) (K (.ref tb 0) ((ZbK tb 0 (Zfh ti.zero) ti.zero).2++[(tb,some (.box (ZbK tb 0 (Zfh ti.zero) ti.zero).1))])))
def ZsZ (tb:Nat) (ti:TI) (x:V) (K:OK):Prop:=Zab x.cells fun vs=>
 Req (vs.length=ti.size) (Req (ti.size≤900) (K (.ref tb 0) ((ZbK tb 0 vs ti.zero).2++[(tb,some (.box (ZbK tb 0 vs ti.zero).1))])))
def Zfv (T:Tys) (tb:Nat):Option Nat→OK→Prop
 |some e,K=>K (.own tb 0 0) [(tb,some (.arr (ZaN T e) []))]
 |none,K=>K .nils []
def Zfu (T:Tys) (tb ty:Nat):V→OK→Prop
 | .nils,K=>Zfv T tb (Zca T ty) K
 |v,K=>K v []
def Zlp (v:V) (K:OK):Prop:=K v []
def Zgl:V→V→V→OK→Prop
 | .d (.bool t),a,b,K=>K (bif t then a else b) []
 |_,_,_,_=>False
def Zfs (h:Heap):V→OK→Prop
 | .ref n off,K=>ZjA (h n) (K (.ref n off) [])
 | .el n i j,K=>Zb2 (h n) fun _ _=>K (.el n i j) []
 | .d (.ptr cs),K=>K (.d (.ptr cs)) []
 | .d (.clo f cs),K=>K (.d (.clo f cs)) []
 | .clo f cs,K=>K (.clo f cs) []
 |_,_=>False
def unVC (op:UnOp):V→OK→Prop
 | .d (.bool b),K=>match op with| .not=>K (.d (.bool (!b))) []|_=>False
 | .d (.int k n),K=>match op with| .neg=>K (.d (.int k (k.wrap (0 - n)))) []|_=>False
 |_,_=>False
def faVC (h:Heap) (off:Nat):V→OK→Prop
 | .ref n o,K=>ZjA (h n) (K (.ref n (o+off)) [])
 | .el n i j,K=>Zb2 (h n) fun _ _=>K (.el n i (j+off)) []
 | .d (.ptr cs),K=>K (.d (.ptr (cs.drop off))) []
 |_,_=>False
def V.aggc:V→Option (List V)
 | .agg vs=>some vs
 | .d (.agg ds)=>some (ds.map .d)
 |_=>none
def ZfF (T:Tys) (ft off:Nat) (x:V) (K:OK):Prop:=Zab x.aggc fun cs=>
 Req (Znn T ft (cs.length - off)) (Req (Zeb T ft=true) (K (ZgF T ft cs off) []))
def ZkA:V→V→OK→Prop
 | .d (.str s),.d (.int _ i),K=>Req (0≤i) (Req (i<s.length) (K (.d (.int .u8 (s.getD i.toNat 0).toNat)) []))
 |_,_,_=>False
def ZkJ (ix:Nat):V→OK→Prop
 | .tup vs,K=>Zab vs[ix]? fun v=>K v []
 |_,_=>False
def Zgn (tb:Nat) (ti:TI):V→V→OK→Prop
 | .d (.int _ n),.d (.int _ n'),K=>Req (n=n') (Req (0≤n) (Req (n≤4294967296) (Req (ti.bytes≤4096) (Req (ti.zero.length=ti.size) (K (.own tb 0 n.toNat) [(tb,some (.arr ti.size (List.replicate n.toNat (Zf9 ti.zero))))])))))
 |_,_,_=>False
def V.isC:V→Bool
 | .agg _| .tup _| .clo _ _=>false
 |_=>true
def ZbD (P:Program) (h:Heap) (tb:Nat) (args:List V):V→OK→Prop
 | .d (.clo f cs),K=>Z2 P h tb f (args++cs.map .d) K
 | .clo f vs,K=>Req ((vs.all V.isC)=true) (Z2 P h tb f (args++vs) K)
 |_,_=>False
def ZjK (tb:Nat) (len:Nat) (ti:TI):Option (List (List D)×List Nat)→OK→Prop
 |some (es,ls),K=>Req (es.length=len) (Req (len≤65536) (Req (len*ti.size≤65536) (Req ((∀c∈es,c.length=ti.size)) (Req ((∀c∈es,∀d∈c,d.one=true)) (K (.own tb 0 len) (ls.map (·,none)++[(tb,some (.arr ti.size es))]))))))
 |none,_=>False
def opVC (T:Tys) (P:Program) (i:Nat) (o:Oper) (ρ:Operand→V) (h:Heap) (K:OK):Prop:=
 match o.op with
 | .move x=>Zlp (ρ x) K
 | .assign x=>Zfu T (1000*(i+1)) o.type (ρ x) K
 | .pick c a b=>Zgl (ρ c) (ρ a) (ρ b) K
 | .alloc e=>Zab (T e) fun ti=>Zia (1000*(i+1)) ti K
 | .box e x=>Zab (T e) fun ti=>ZsZ (1000*(i+1)) ti (ρ x) K
 | .build t parts=>Zab (ZeX (T t)) fun p=>Req (p.2.2.length=p.2.1) (Req ((p.1.all fun q=>Zeb T q.2)=true) (Zab (Zgr T p.1 p.2.1 (Zfh p.2.2) (parts.toList.map fun q=>(q.1,ρ q.2))) fun cs=>K (.agg cs) []))
 | .buildSlice t len parts=>Zab ((Zca T t).bind T) fun ti=>
   ZjK (1000*(i+1)) len ti (ZbM h 0 (parts.toList.map fun p=>(p.1,ρ p.2))) K
 | .load t a=>Zcy T h t (ρ a) K
 | .store t a x=>Zgu T h (1000*(i+1)) t (ρ a) (ρ x) K
 | .nilCheck x=>Zfs h (ρ x) K
 | .binOp op t x y _=>ZgT T t op (ρ x) (ρ y) K
 | .unOp op _ x=>unVC op (ρ x) K
 | .convert src dst x=>Zbm h (1000*(i+1)) (Zfa (T src) (T dst) T) (ρ x) K
 | .makeFunc (.func f) first captured=>Req (first.toList.length=0) (K (.clo f (captured.toList.map ρ)) [])
 | .makeSlice t l c=>Zab ((Zca T t).bind T) fun ti=>Zgn (1000*(i+1)) ti (ρ l) (ρ c) K
 | .slice t x lo hi mx=>ZaS T h t (ρ x) (lo.map ρ) (hi.map ρ) (mx.map ρ) K
 | .fieldAddr t x f=>Zab (Zcq T t f) fun p=>Req (0<ZaN T p.2) (faVC h p.1 (ρ x) K)
 | .field t x f=>Zab (Zcq T t f) fun p=>ZfF T p.2 p.1 (ρ x) K
 | .indexAddr t x i=>Zb7 T h (Zca T t) (ρ x) (ρ i) K
 | .index t x i=>Req (Zhn (T t)=true) (ZkA (ρ x) (ρ i) K)
 | .extract x ix=>ZkJ ix (ρ x) K
 | .call c=>match c.callee with
  | .builtin b=>ZaC T h (1000*(i+1)) b c.argTypes.toList (c.args.toList.map ρ) K
  | .value (.func f)=>Z2 P h (1000*(i+1)) f (c.args.toList.map ρ) K
  | .value x=>ZbD P h (1000*(i+1)) (c.args.toList.map ρ) (ρ x) K
  |_=>False
 |_=>False
def ZhU (h:Heap):V→Option (Bool→Prop)
 | .d (.sl xs)=>some fun b=>b=true→xs=[]
 | .own n _ len=>match h n with
  |some (.arr _ _)=>some fun b=>b=true→len=0
  |_=>none
 | .nils=>some fun b=>b=true
 |_=>none
def ZjE (h:Heap) (op:BinOp):V→V→Option (Bool→Prop)
 |x,.nils=>match op with
  | .eql=>ZhU h x
  | .neq=>(ZhU h x).map fun S b=>S (!b)
  |_=>none
 |_,_=>none
def onNd:Option (Bool→Prop)→OK→Prop→Prop
 |some S,K,_=>∀b,S b→K (.d (.bool b)) []
 |none,_,p=>p
def ZkK (h:Heap) (ok:Bool):List V→OK→Prop
 |[.own n _ len],K=>Req (ok=true) (Zb2 (h n) fun _ _=>∀c:Nat,len≤c→K (.d (.int .i64 c)) [])
 |[.d (.sl xs)],K=>Req (ok=true) (∀c:Nat,xs.length≤c→K (.d (.int .i64 c)) [])
 |[.nils],K=>Req (ok=true) (K (.d (.int .i64 0)) [])
 |_,_=>False
def slTy (T:Tys) (ts:List Nat):Bool:=isSl (ts.head?.bind T)
def Zbd (T:Tys) (P:Program) (i:Nat) (o:Oper) (ρ:Operand→V) (h:Heap) (K:OK):Prop:=
 match o.op with
 | .binOp op t x y _=>onNd (bif isSl (T t) then ZjE h op (ρ x) (ρ y) else none) K (opVC T P i o ρ h K)
 | .call ⟨.builtin .cap,args,ts⟩=>ZkK h (slTy T ts.toList) (args.toList.map ρ) K
 |_=>opVC T P i o ρ h K
def St.app (s:St) (dst:Option Nat) (v:V) (u:Upd):St:=
 {env:=match dst with|some t=>(t,v)::s.env|none=>s.env,H:=u.reverse++s.H}
def Zgp (all:List Oper) (env:List (Nat×V)) (j:Nat):V:=
 match all[j]? with
 |some o=>match o.dst with
  |some t=>eget env t
  |none=> .dead
 |none=> .dead
def Zfe (all:List Oper) (j:Nat):Option Nat:=(all[j]?).bind (·.dst)
def Zaz (T : Tys) (P : Program) (all : List Oper) : Nat → List Oper → St → (St → Prop) → Prop
  | _, [], s, K => K s
  | i, o :: l, s, K =>
    match o.guard with
    | none => Zbd T P i o (ev s.env) (uget s.H) fun v u => Zaz T P all (i + 1) l (s.app o.dst v u) K
    | some (j, want) => match Zgp all s.env j with
      | .d (.bool b) =>
        WayG b want (opVC T P i o (ev ((s.app (Zfe all j) (.d (.bool want)) []).env)) (uget s.H) fun v u =>
          Zaz T P all (i + 1) l ((s.app (Zfe all j) (.d (.bool want)) []).app o.dst v u) K)
         (Zaz T P all (i + 1) l ((s.app (Zfe all j) (.d (.bool (!want))) []).app o.dst (.d .und) []) K)
      | .d .und => Zaz T P all (i + 1) l (s.app o.dst (.d .und) []) K
      | _ => False
structure Foot where
 rt:List Nat
 wt:Option Nat
 rn:List Nat
 wn:List Nat
def Zid (o:Oper):List Nat:=o.op.operands.toList.filterMap fun| .tmp t=>some t|_=>none
def rdN (o:Oper) (ρ:Operand→V) (h:Heap):List Nat:=match o.op with
 | .load _ a=>refV (ρ a)
 | .store _ a x=>refV (ρ a)++refV (ρ x)
 | .indexAddr _ x _=>refV (ρ x)
 | .slice _ x _ _ _=>refV (ρ x)
 | .nilCheck x=>refV (ρ x)
 | .fieldAddr _ x _=>refV (ρ x)
 | .convert _ _ x=>refV (ρ x)
 | .buildSlice _ _ parts=>parts.toList.flatMap fun p=>refV (ρ p.2)
 | .call c=>(c.operands.toList.flatMap fun x=>refV (ρ x)).flatMap (fun n=>n::refO h n)
 |_=> []
def Zen (T : Tys) (P : Program) (all : List Oper) : Nat → List Oper → St → List Foot → (St → List Foot → Prop) → Prop
  | _, [], s, fs, K => K s fs
  | i, o :: l, s, fs, K =>
    match o.guard with
    | none => opVC T P i o (ev s.env) (uget s.H) fun v u => Zen T P all (i + 1) l (s.app o.dst v u) (⟨Zid o, o.dst, rdN o (ev s.env) (uget s.H), u.map (·.1)⟩ :: fs) K
    | some (j, want) => match Zgp all s.env j with
      | .d (.bool b) =>
        WayG b want (opVC T P i o (ev s.env) (uget s.H) fun v u =>
          Zen T P all (i + 1) l (s.app o.dst v u) (⟨(Zfe all j).toList ++ Zid o, o.dst, rdN o (ev s.env) (uget s.H), u.map (·.1)⟩ :: fs) K)
         (Zen T P all (i + 1) l (s.app o.dst (.d .und) []) (⟨(Zfe all j).toList, o.dst, [], []⟩ :: fs) K)
      | .d .und => Zen T P all (i + 1) l (s.app o.dst (.d .und) []) (⟨(Zfe all j).toList, o.dst, [], []⟩ :: fs) K
      | _ => False
def befs:List (List Nat)→List Oper→List (List Nat)
 |acc,[]=>acc
 |acc,o::l=>befs (acc++[dd [] ((o.after.toList.filter (Region.binds .any)).flatMap fun e=>e.on::(acc.getD e.on []))]) l
def Zrr (a b:List Nat):Bool:=a.all fun n=> !b.contains n
def Zv5 (x y:Foot):Bool:=
 (match x.wt with|some t=> !y.rt.contains t&& !(y.wt==some t)|none=>true)&&
 (match y.wt with|some t=> !x.rt.contains t|none=>true)&&
 Zrr x.wn y.wn&&Zrr x.wn y.rn&&Zrr y.wn x.rn
def Zml:Nat→List Oper→Bool
 |_,[]=>true
 |i,o::l=>(o.after.toList.all fun e=> !Region.binds .any e||Nat.blt e.on i)&&Zml (i+1) l
def ZvK (all:List Oper) (fs:List Foot):Bool:=
 let b:=befs [] all
 let f:=fs.reverse
 Zml 0 all&&(f.length==all.length)&&
 (List.range all.length).all fun i=>(List.range i).all fun j=>
  (b.getD i []).contains j||(match f[i]?,f[j]? with|some x,some y=>Zv5 x y|_,_=>false)
def Zam:Code→Nat
 | .region id _ _=>id
 | .seq a b=>match a with
  | .skip| .label _=>Zam b
  |a=>Zam a
 | .block _ c| .loop c| .scope c=>Zam c
 |_=>0
def ZpW (_:Nat) (all:List Oper) (fs:List Foot):Prop:=ZvK all fs=true
abbrev ZW:=Nat→List Nat
def cVC (T:Tys) (P:Program) (hr hl:ZW):Code→St→(Exit→St→Prop)→Prop
 | .skip,s,K=>K .normal s
 | .region id ops draw,s,K=>
  match draw with
  |false=>Zaz T P ops.toList 0 ops.toList (prep (hr id) s) fun s'=>K .normal s'
  |true=>Zen T P ops.toList 0 ops.toList (prep (hr id) s) [] fun s' fs=>Req (ZpW 0 ops.toList fs) (K .normal s')
 | .seq a b,s,K=>cVC T P hr hl a s fun e s'=>match e with
  | .normal=>cVC T P hr hl b s' K
  |e=>K e s'
 | .cond c x y,s,K=>match ev s.env c with
  | .d (.bool b)=>Way b (cVC T P hr hl x s K) (cVC T P hr hl y s K)
  |_=>False
 | .block id c,s,K=>cVC T P hr hl c s fun e s'=>match e with
  | .exit i=>if i=id then K .normal s' else K (.exit i) s'
  |e=>K e s'
 | .loop c,s,K=>∃(α:Type) (st:α→St) (inv:α→Prop) (m:α→Nat),(∃x,prep (hl (Zam c)) s=st x∧inv x)∧
   ∀x,inv x→cVC T P hr hl c (st x) fun e s''=>match e with
    | .normal=>∃y,prep (hl (Zam c)) s''=st y∧inv y∧m y<m x
    |e=>K e s''
 | .exit id,s,K=>K (.exit id) s
 | .ret,s,K=>K .ret s
 | .label _,s,K=>K .normal s
 |_,_,_=>False
def one:List V→V
 |[v]=>v
 |vs=> .tup vs
def resK (T:Tys) (s:St):List ResultVar→(List V→Prop)→Prop
 |[],K=>K []
 | .tmp t::rs,K=>resK T s rs fun vs=>K (eget s.env t::vs)
 | .cell a ty::rs,K=>Zcy T (uget s.H) ty (eget s.env a) fun v _=>resK T s rs fun vs=>K (v::vs)
def ZkE (env:List (Nat×V)):Nat→List Bool→List V
 |_,[]=> []
 |i,b::l=>(bif b then eget env i else .dead)::ZkE env (i+1) l
def ZqW (np:List Bool) (s:St) (res:V):List V×V×List (Nat×AObj):=
 let outs:=ZkE s.env 0 np
 let o:=order (uget s.H) (outs++[res])
 (outs.map (renV (idx o)),renV (idx o) res,objs (uget s.H) (idx o) 0 o)
end Go.Rx
namespace Go.Rx
open Go Go.RowKit
def mark {α:Sort _} (x:α):α:=x
@[go_sem] theorem mark_eq {α:Sort _} (x:α):mark x=x:=(rfl)
section
variable {T:Tys} {P:Program} {i:Nat} {d:Option Nat} {ty:Nat} {pos:String} {af:Array Edge} {g:Option (Nat×Bool)} {ρ:Operand→V} {h:Heap} {K:OK}
theorem ZmR {o:Oper} {i':Nat} (e:mark i=i'):Zbd T P i o ρ h K=Zbd T P i' o ρ h K:=by subst e;rfl
attribute [congr] ZmR
@[congr] theorem onNd_congr {x x':Option (Bool→Prop)} {q:Prop} (e:mark x=x'):onNd x K q=onNd x' K q:=by subst e;rfl
@[congr] theorem Zzw {b b':Bool} {l l':List V} (e:mark b=b') (e2:l=l'):ZkK h b l K=ZkK h b' l' K:=by subst e;subst e2;rfl
theorem ZrQ {o:Oper} {i':Nat} (e:mark i=i'):opVC T P i o ρ h K=opVC T P i' o ρ h K:=by subst e;rfl
attribute [congr] ZrQ
@[go_sem] theorem op_move {x:Operand}:opVC T P i ⟨d,.move x,ty,pos,af,g⟩ ρ h K=Zlp (ρ x) K:=rfl
@[go_sem] theorem op_assign {x:Operand}:opVC T P i ⟨d,.assign x,ty,pos,af,g⟩ ρ h K=Zfu T (1000*(i+1)) ty (ρ x) K:=rfl
@[go_sem] theorem op_pick {c a b:Operand}:opVC T P i ⟨d,.pick c a b,ty,pos,af,g⟩ ρ h K=Zgl (ρ c) (ρ a) (ρ b) K:=rfl
@[go_sem] theorem op_alloc {e:Nat}:opVC T P i ⟨d,.alloc e,ty,pos,af,g⟩ ρ h K=Zab (T e) fun ti=>Zia (1000*(i+1)) ti K:=rfl
@[go_sem] theorem op_box {e:Nat} {x:Operand}:opVC T P i ⟨d,.box e x,ty,pos,af,g⟩ ρ h K=Zab (T e) fun ti=>ZsZ (1000*(i+1)) ti (ρ x) K:=rfl
@[go_sem] theorem op_build {t:Nat} {ps:Array (Nat×Operand)}:opVC T P i ⟨d,.build t ps,ty,pos,af,g⟩ ρ h K=
  Zab (ZeX (T t)) fun p=>Req (p.2.2.length=p.2.1) (Req ((p.1.all fun q=>Zeb T q.2)=true) (Zab (Zgr T p.1 p.2.1 (Zfh p.2.2) (ps.toList.map fun q=>(q.1,ρ q.2))) fun cs=>K (.agg cs) [])):=rfl
@[go_sem] theorem ZwQ {t n:Nat} {ps:Array (Nat×Operand)}:opVC T P i ⟨d,.buildSlice t n ps,ty,pos,af,g⟩ ρ h K=
  Zab ((Zca T t).bind T) fun ti=>ZjK (1000*(i+1)) n ti (ZbM h 0 (ps.toList.map fun p=>(p.1,ρ p.2))) K:=rfl
@[go_sem] theorem op_load {t:Nat} {a:Operand}:opVC T P i ⟨d,.load t a,ty,pos,af,g⟩ ρ h K=Zcy T h t (ρ a) K:=rfl
@[go_sem] theorem op_store {t:Nat} {a x:Operand}:opVC T P i ⟨d,.store t a x,ty,pos,af,g⟩ ρ h K=Zgu T h (1000*(i+1)) t (ρ a) (ρ x) K:=rfl
@[go_sem] theorem ZyT {x:Operand}:opVC T P i ⟨d,.nilCheck x,ty,pos,af,g⟩ ρ h K=Zfs h (ρ x) K:=rfl
@[go_sem] theorem op_binOp {op:BinOp} {t u:Nat} {x y:Operand}:opVC T P i ⟨d,.binOp op t x y u,ty,pos,af,g⟩ ρ h K=ZgT T t op (ρ x) (ρ y) K:=rfl
@[go_sem] theorem op_unOp {op:UnOp} {t:Nat} {x:Operand}:opVC T P i ⟨d,.unOp op t x,ty,pos,af,g⟩ ρ h K=unVC op (ρ x) K:=rfl
@[go_sem] theorem op_convert {s t:Nat} {x:Operand}:opVC T P i ⟨d,.convert s t x,ty,pos,af,g⟩ ρ h K=Zbm h (1000*(i+1)) (Zfa (T s) (T t) T) (ρ x) K:=rfl
@[go_sem] theorem ZyU {f:Nat} {a b:Array Operand}:opVC T P i ⟨d,.makeFunc (.func f) a b,ty,pos,af,g⟩ ρ h K=(Req (a.toList.length=0) (K (.clo f (b.toList.map ρ)) [])):=rfl
@[go_sem] theorem Zx0 {t:Nat} {l c:Operand}:opVC T P i ⟨d,.makeSlice t l c,ty,pos,af,g⟩ ρ h K=Zab ((Zca T t).bind T) fun ti=>Zgn (1000*(i+1)) ti (ρ l) (ρ c) K:=rfl
@[go_sem] theorem op_slice {t:Nat} {x:Operand} {lo hi mx:Option Operand}:opVC T P i ⟨d,.slice t x lo hi mx,ty,pos,af,g⟩ ρ h K=ZaS T h t (ρ x) (lo.map ρ) (hi.map ρ) (mx.map ρ) K:=rfl
@[go_sem] theorem Zx2 {t f:Nat} {x:Operand}:opVC T P i ⟨d,.fieldAddr t x f,ty,pos,af,g⟩ ρ h K=Zab (Zcq T t f) fun p=>Req (0<ZaN T p.2) (faVC h p.1 (ρ x) K):=rfl
@[go_sem] theorem op_field {t f:Nat} {x:Operand}:opVC T P i ⟨d,.field t x f,ty,pos,af,g⟩ ρ h K=Zab (Zcq T t f) fun p=>ZfF T p.2 p.1 (ρ x) K:=rfl
@[go_sem] theorem Zx1 {t:Nat} {x y:Operand}:opVC T P i ⟨d,.indexAddr t x y,ty,pos,af,g⟩ ρ h K=Zb7 T h (Zca T t) (ρ x) (ρ y) K:=rfl
@[go_sem] theorem op_index {t:Nat} {x y:Operand}:opVC T P i ⟨d,.index t x y,ty,pos,af,g⟩ ρ h K=(Req (Zhn (T t)=true) (ZkA (ρ x) (ρ y) K)):=rfl
@[go_sem] theorem op_extract {n:Nat} {x:Operand}:opVC T P i ⟨d,.extract x n,ty,pos,af,g⟩ ρ h K=ZkJ n (ρ x) K:=rfl
@[go_sem] theorem op_builtin {b:Builtin} {as:Array Operand} {ts:Array TypeId}:opVC T P i ⟨d,.call ⟨.builtin b,as,ts⟩,ty,pos,af,g⟩ ρ h K=
  ZaC T h (1000*(i+1)) b ts.toList (as.toList.map ρ) K:=rfl
@[go_sem] theorem op_call {f:Nat} {as:Array Operand} {ts:Array TypeId}:opVC T P i ⟨d,.call ⟨.value (.func f),as,ts⟩,ty,pos,af,g⟩ ρ h K=
  Z2 P h (1000*(i+1)) f (as.toList.map ρ) K:=rfl
@[go_sem] theorem op_callT {t:Nat} {as:Array Operand} {ts:Array TypeId}:opVC T P i ⟨d,.call ⟨.value (.tmp t),as,ts⟩,ty,pos,af,g⟩ ρ h K=
  ZbD P h (1000*(i+1)) (as.toList.map ρ) (ρ (.tmp t)) K:=rfl
end
section
variable {T:Tys} {P:Program} {i:Nat} {d:Option Nat} {ty:Nat} {pos:String} {af:Array Edge} {g:Option (Nat×Bool)} {ρ:Operand→V} {h:Heap} {K:OK}
@[go_sem] theorem st_move {x:Operand}:Zbd T P i ⟨d,.move x,ty,pos,af,g⟩ ρ h K=Zlp (ρ x) K:=rfl
@[go_sem] theorem st_assign {x:Operand}:Zbd T P i ⟨d,.assign x,ty,pos,af,g⟩ ρ h K=(Zfu T (1000*(i+1)) ty (ρ x) K):=rfl
@[go_sem] theorem st_pick {c a b:Operand}:Zbd T P i ⟨d,.pick c a b,ty,pos,af,g⟩ ρ h K=(Zgl (ρ c) (ρ a) (ρ b) K):=rfl
@[go_sem] theorem st_alloc {e:Nat}:Zbd T P i ⟨d,.alloc e,ty,pos,af,g⟩ ρ h K=(Zab (T e) fun ti=>Zia (1000*(i+1)) ti K):=rfl
@[go_sem] theorem st_box {e:Nat} {x:Operand}:Zbd T P i ⟨d,.box e x,ty,pos,af,g⟩ ρ h K=(Zab (T e) fun ti=>ZsZ (1000*(i+1)) ti (ρ x) K):=rfl
@[go_sem] theorem st_build {t:Nat} {ps:Array (Nat×Operand)}:Zbd T P i ⟨d,.build t ps,ty,pos,af,g⟩ ρ h K=(Zab (ZeX (T t)) fun p=>Req (p.2.2.length=p.2.1) (Req ((p.1.all fun q=>Zeb T q.2)=true) (Zab (Zgr T p.1 p.2.1 (Zfh p.2.2) (ps.toList.map fun q=>(q.1,ρ q.2))) fun cs=>K (.agg cs) []))):=rfl
@[go_sem] theorem ZwE {t n:Nat} {ps:Array (Nat×Operand)}:Zbd T P i ⟨d,.buildSlice t n ps,ty,pos,af,g⟩ ρ h K=(Zab ((Zca T t).bind T) fun ti=>ZjK (1000*(i+1)) n ti (ZbM h 0 (ps.toList.map fun p=>(p.1,ρ p.2))) K):=rfl
@[go_sem] theorem st_load {t:Nat} {a:Operand}:Zbd T P i ⟨d,.load t a,ty,pos,af,g⟩ ρ h K=(Zcy T h t (ρ a) K):=rfl
@[go_sem] theorem st_store {t:Nat} {a x:Operand}:Zbd T P i ⟨d,.store t a x,ty,pos,af,g⟩ ρ h K=(Zgu T h (1000*(i+1)) t (ρ a) (ρ x) K):=rfl
@[go_sem] theorem ZyJ {x:Operand}:Zbd T P i ⟨d,.nilCheck x,ty,pos,af,g⟩ ρ h K=(Zfs h (ρ x) K):=rfl
@[go_sem] theorem st_unOp {op:UnOp} {t:Nat} {x:Operand}:Zbd T P i ⟨d,.unOp op t x,ty,pos,af,g⟩ ρ h K=(unVC op (ρ x) K):=rfl
@[go_sem] theorem st_convert {s t:Nat} {x:Operand}:Zbd T P i ⟨d,.convert s t x,ty,pos,af,g⟩ ρ h K=(Zbm h (1000*(i+1)) (Zfa (T s) (T t) T) (ρ x) K):=rfl
@[go_sem] theorem ZyK {f:Nat} {a b:Array Operand}:Zbd T P i ⟨d,.makeFunc (.func f) a b,ty,pos,af,g⟩ ρ h K=((Req (a.toList.length=0) (K (.clo f (b.toList.map ρ)) []))):=rfl
@[go_sem] theorem ZxU {t:Nat} {l c:Operand}:Zbd T P i ⟨d,.makeSlice t l c,ty,pos,af,g⟩ ρ h K=(Zab ((Zca T t).bind T) fun ti=>Zgn (1000*(i+1)) ti (ρ l) (ρ c) K):=rfl
@[go_sem] theorem st_slice {t:Nat} {x:Operand} {lo hi mx:Option Operand}:Zbd T P i ⟨d,.slice t x lo hi mx,ty,pos,af,g⟩ ρ h K=(ZaS T h t (ρ x) (lo.map ρ) (hi.map ρ) (mx.map ρ) K):=rfl
@[go_sem] theorem ZxW {t f:Nat} {x:Operand}:Zbd T P i ⟨d,.fieldAddr t x f,ty,pos,af,g⟩ ρ h K=(Zab (Zcq T t f) fun p=>Req (0<ZaN T p.2) (faVC h p.1 (ρ x) K)):=rfl
@[go_sem] theorem st_field {t f:Nat} {x:Operand}:Zbd T P i ⟨d,.field t x f,ty,pos,af,g⟩ ρ h K=(Zab (Zcq T t f) fun p=>ZfF T p.2 p.1 (ρ x) K):=rfl
@[go_sem] theorem ZxV {t:Nat} {x y:Operand}:Zbd T P i ⟨d,.indexAddr t x y,ty,pos,af,g⟩ ρ h K=(Zb7 T h (Zca T t) (ρ x) (ρ y) K):=rfl
@[go_sem] theorem st_index {t:Nat} {x y:Operand}:Zbd T P i ⟨d,.index t x y,ty,pos,af,g⟩ ρ h K=((Req (Zhn (T t)=true) (ZkA (ρ x) (ρ y) K))):=rfl
@[go_sem] theorem st_extract {n:Nat} {x:Operand}:Zbd T P i ⟨d,.extract x n,ty,pos,af,g⟩ ρ h K=(ZkJ n (ρ x) K):=rfl
@[go_sem] theorem st_call {f:Nat} {as:Array Operand} {ts:Array TypeId}:Zbd T P i ⟨d,.call ⟨.value (.func f),as,ts⟩,ty,pos,af,g⟩ ρ h K=(Z2 P h (1000*(i+1)) f (as.toList.map ρ) K):=rfl
@[go_sem] theorem st_callT {t:Nat} {as:Array Operand} {ts:Array TypeId}:Zbd T P i ⟨d,.call ⟨.value (.tmp t),as,ts⟩,ty,pos,af,g⟩ ρ h K=(ZbD P h (1000*(i+1)) (as.toList.map ρ) (ρ (.tmp t)) K):=rfl
@[go_sem] theorem st_binOp {op:BinOp} {t u:Nat} {x y:Operand}:Zbd T P i ⟨d,.binOp op t x y u,ty,pos,af,g⟩ ρ h K=onNd (bif isSl (T t) then ZjE h op (ρ x) (ρ y) else none) K (ZgT T t op (ρ x) (ρ y) K):=rfl
@[go_sem] theorem st_len {as:Array Operand} {ts:Array TypeId}:Zbd T P i ⟨d,.call ⟨.builtin .len,as,ts⟩,ty,pos,af,g⟩ ρ h K=ZaC T h (1000*(i+1)) .len ts.toList (as.toList.map ρ) K:=rfl
@[go_sem] theorem st_append {as:Array Operand} {ts:Array TypeId}:Zbd T P i ⟨d,.call ⟨.builtin .append,as,ts⟩,ty,pos,af,g⟩ ρ h K=ZaC T h (1000*(i+1)) .append ts.toList (as.toList.map ρ) K:=rfl
@[go_sem] theorem st_min {as:Array Operand} {ts:Array TypeId}:Zbd T P i ⟨d,.call ⟨.builtin .min,as,ts⟩,ty,pos,af,g⟩ ρ h K=ZaC T h (1000*(i+1)) .min ts.toList (as.toList.map ρ) K:=rfl
@[go_sem] theorem st_max {as:Array Operand} {ts:Array TypeId}:Zbd T P i ⟨d,.call ⟨.builtin .max,as,ts⟩,ty,pos,af,g⟩ ρ h K=ZaC T h (1000*(i+1)) .max ts.toList (as.toList.map ρ) K:=rfl
@[go_sem] theorem st_clear {as:Array Operand} {ts:Array TypeId}:Zbd T P i ⟨d,.call ⟨.builtin .clear,as,ts⟩,ty,pos,af,g⟩ ρ h K=ZaC T h (1000*(i+1)) .clear ts.toList (as.toList.map ρ) K:=rfl
@[go_sem] theorem st_cap {as:Array Operand} {ts:Array TypeId}:Zbd T P i ⟨d,.call ⟨.builtin .cap,as,ts⟩,ty,pos,af,g⟩ ρ h K=ZkK h (slTy T ts.toList) (as.toList.map ρ) K:=rfl
end
section
variable {T:Tys} {P:Program} {h:Heap} {K:OK} {tb:Nat}
@[congr] theorem Zx4 {ty:Nat} {v v':V} (e:mark v=v'):Zfu T tb ty v K=Zfu T tb ty v' K:=by subst e;rfl
@[congr] theorem Zya {v v':V} (e:mark v=v'):Zlp v K=Zlp v' K:=by subst e;rfl
@[congr] theorem appZ_congr {t t':TI} {v v' x x':V} (e0:mark t=t') (e:v=v') (e2:x=x'):appZ tb t v x K=appZ tb t' v' x' K:=by subst e0;subst e;subst e2;rfl
@[congr] theorem Sel_congr {b b':Bool} {p q:Prop} (h:mark b=b'):Sel b p q=Sel b' p q:=by subst h;rfl
@[go_sem] theorem Sel_true {p q:Prop}:Sel true p q=p:=rfl
@[go_sem] theorem Sel_false {p q:Prop}:Sel false p q=q:=rfl
@[congr] theorem ZwW {v v':Option Nat} (e:mark v=v'):Zfv T tb v K=Zfv T tb v' K:=by subst e;rfl
@[congr] theorem ZxZ {c c' a a' b b':V} (e:mark c=c') (e1:a=a') (e2:b=b'):Zgl c a b K=Zgl c' a' b' K:=by subst e;subst e1;subst e2;rfl
@[congr] theorem Zx3 {α:Type} {F:α→Prop} {x x':Option α} (e:mark x=x'):Zab x F=Zab x' F:=by subst e;rfl
@[congr] theorem ZyX {F:List V→Prop} {x x':Option AObj} (e:mark x=x'):ZjB x F=ZjB x' F:=by subst e;rfl
@[congr] theorem ZyY {F:Nat→List (List D)→Prop} {x x':Option AObj} (e:mark x=x'):Zb2 x F=Zb2 x' F:=by subst e;rfl
@[congr] theorem ZyV {F:Prop} {x x':Option AObj} (e:mark x=x'):ZjA x F=ZjA x' F:=by subst e;rfl
@[congr] theorem ZyW {F:IntKind→Int→Prop} {x x':V} (e:mark x=x'):onInt x F=onInt x' F:=by subst e;rfl
@[congr] theorem ZxN {ti ti':TI} (e:mark ti=ti'):Zia tb ti K=Zia tb ti' K:=by subst e;rfl
@[congr] theorem ZzE {ti ti':TI} {v v':V} (e:mark ti=ti') (e2:v=v'):ZsZ tb ti v K=ZsZ tb ti' v' K:=by subst e;subst e2;rfl
@[congr] theorem Zy6 {n:Nat} {ti ti':TI} {v v':Option (List (List D)×List Nat)} (e:mark ti=ti') (e2:v=v'):ZjK tb n ti v K=ZjK tb n ti' v' K:=by subst e;subst e2;rfl
@[congr] theorem Zx8 {t:Nat} {v v':V} (e:mark v=v'):Zcy T h t v K=Zcy T h t v' K:=by subst e;rfl
@[congr] theorem ZwB {t:Nat} {v v' x x':V} (e:mark v=v') (e2:x=x'):Zgu T h tb t v x K=Zgu T h tb t v' x' K:=by subst e;subst e2;rfl
@[congr] theorem ZwC {ti ti':TI} {vs vs':List V} {v v':V} (e:mark ti=ti') (e1:vs=vs') (e2:v=v'):ZdU h tb ti vs v K=ZdU h tb ti' vs' v' K:=by subst e;subst e1;subst e2;rfl
@[congr] theorem Zy0 {v v':V} (e:mark v=v'):Zfs h v K=Zfs h v' K:=by subst e;rfl
@[congr] theorem ZzM {t:Nat} {op:BinOp} {v v' x x':V} (e:mark v=v') (e2:x=x'):ZgT T t op v x K=ZgT T t op v' x' K:=by subst e;subst e2;rfl
@[congr] theorem Zzf {op:BinOp} {k k':IntKind} {a a' b b':Int} (e0:mark k=k') (e:a=a') (e2:b=b'):ZcP op k a b K=ZcP op k' a' b' K:=by subst e0;subst e;subst e2;rfl
@[congr] theorem ZyG {op:BinOp} {a a' b b':List UInt8} (e:mark a=a') (e2:b=b'):Zg1 op a b K=Zg1 op a' b' K:=by subst e;subst e2;rfl
@[congr] theorem Zzl {op:BinOp} {b b':Bool} (e:mark b=b'):Zj8 op b K=Zj8 op b' K:=by subst e;rfl
@[congr] theorem ZzP {op:BinOp} {k k':TK} {a a' b b':Option (List D)} (e0:mark k=k') (e:a=a') (e2:b=b'):Zkp T op k a b K=Zkp T op k' a' b' K:=by subst e0;subst e;subst e2;rfl
@[congr] theorem ZyS {op:BinOp} {b:Bool} {k k':TK} (e0:mark k=k'):Zl9 op b k K=Zl9 op b k' K:=by subst e0;rfl
@[congr] theorem unVC_congr {op:UnOp} {v v':V} (e:mark v=v'):unVC op v K=unVC op v' K:=by subst e;rfl
@[congr] theorem Zyf {c c':CK} {v v':V} (e1:mark c=c') (e:v=v'):Zbm h tb c v K=Zbm h tb c' v' K:=by subst e1;subst e;rfl
@[congr] theorem Zx6 {ti ti':TI} {v v' x x':V} (e1:mark ti=ti') (e:v=v') (e2:x=x'):Zgn tb ti v x K=Zgn tb ti' v' x' K:=by subst e1;subst e;subst e2;rfl
@[congr] theorem ZwG {t:Nat} {v v':V} {a a' b b' c c':Option V} (e:mark v=v') (e1:a=a') (e2:b=b') (e3:c=c'):ZaS T h t v a b c K=ZaS T h t v' a' b' c' K:=by subst e;subst e1;subst e2;subst e3;rfl
@[congr] theorem faVC_congr {o o':Nat} {v v':V} (e1:mark o=o') (e:v=v'):faVC h o v K=faVC h o' v' K:=by subst e1;subst e;rfl
@[congr] theorem Zxn {f f' o o':Nat} {v v':V} (e0:mark f=f') (e1:o=o') (e:v=v'):ZfF T f o v K=ZfF T f' o' v' K:=by subst e0;subst e1;subst e;rfl
@[congr] theorem Zw6 {o o':Option Nat} {v v' x x':V} (e1:mark o=o') (e:v=v') (e2:x=x'):Zb7 T h o v x K=Zb7 T h o' v' x' K:=by subst e1;subst e;subst e2;rfl
@[congr] theorem ZyH {v v' x x':V} (e:mark v=v') (e2:x=x'):ZkA v x K=ZkA v' x' K:=by subst e;subst e2;rfl
@[congr] theorem Zzk {n:Nat} {v v':V} (e:mark v=v'):ZkJ n v K=ZkJ n v' K:=by subst e;rfl
@[congr] theorem ZvR {b:Builtin} {ts ts':List Nat} {v v':List V} (e0:mark ts=ts') (e:v=v'):ZaC T h tb b ts v K=ZaC T h tb b ts' v' K:=by subst e0;subst e;rfl
@[congr] theorem Zy7 {t t':Option TI} {v v':V} (e0:mark t=t') (e:v=v'):Zgc h t v K=Zgc h t' v' K:=by subst e0;subst e;rfl
@[congr] theorem Zwk {t t' u u':Option Nat} {v v' x x':V} (e0:mark t=t') (e1:u=u') (e:v=v') (e2:x=x'):ZcO T h tb t u v x K=ZcO T h tb t' u' v' x' K:=by subst e0;subst e1;subst e;subst e2;rfl
@[congr] theorem ZzO {t t':TI} {v v':V} {x x':List (List D)} (e0:mark t=t') (e:v=v') (e2:x=x'):Zex h tb t v x K=Zex h tb t' v' x' K:=by subst e0;subst e;subst e2;rfl
@[congr] theorem ZxA {t t':TI} {v v':V} (e0:mark t=t') (e:v=v'):Zew h t v K=Zew h t' v' K:=by subst e0;subst e;rfl
@[congr] theorem Zwj {v v':V} {x x':List V} (e:mark v=v') (e2:x=x'):ZbD P h tb x v K=ZbD P h tb x' v' K:=by subst e;subst e2;rfl
@[congr] theorem Zyh {f:Nat} {x x':List V} (e2:mark x=x'):Z2 P h tb f x K=Z2 P h tb f x' K:=by subst e2;rfl
end
def Zoh (T:Tys) (P:Program) (hr hl:ZW) (x y:Code) (s:St) (K:Exit→St→Prop):V→Prop
 | .d (.bool b)=>Way b (cVC T P hr hl x s K) (cVC T P hr hl y s K)
 |_=>False
def ZaO {α:Type} (st:α→St) (inv:α→Prop) (m:α→Nat) (x:α) (s:St):Prop:=∃y,s=st y∧inv y∧m y<m x
theorem ZP {α:Type} {st:α→St} {inv:α→Prop} {m:α→Nat} {x:α} {s:St} (y:α) (h0:s=st y) (hi:inv y) (hm:m y<m x):ZaO st inv m x s:=⟨y,h0,hi,hm⟩
def ZkX {α:Type} (keep:List Nat) (st:α→St) (inv:α→Prop) (m:α→Nat) (x:α) (K:Exit→St→Prop):Exit→St→Prop
 | .normal,s''=>ZaO st inv m x (prep keep s'')
 |e,s''=>K e s''
def Zai (T:Tys) (P:Program) (hr hl:ZW) (c:Code) (keep:List Nat) (s:St) (K:Exit→St→Prop):Prop:=
 ∃(α:Type) (st:α→St) (inv:α→Prop) (m:α→Nat),(∃x,s=st x∧inv x)∧
   ∀x,inv x→cVC T P hr hl c (st x) (ZkX keep st inv m x K)
theorem ZY {T:Tys} {P:Program} {hr hl:ZW} {c:Code} {keep:List Nat} {s:St} {K:Exit→St→Prop} {α:Type} (st:α→St) (inv:α→Prop) (m:α→Nat) (x0:α) (h0:s=st x0) (hi:inv x0)
  (h:∀x,inv x→cVC T P hr hl c (st x) (ZkX keep st inv m x K)):Zai T P hr hl c keep s K:=⟨α,st,inv,m,⟨x0,h0,hi⟩,h⟩
theorem req {p q:Prop} (h1:p) (h2:q):Req p q:=⟨h1,h2⟩
theorem way {b:Bool} {p q:Prop} (h1:b=true→p) (h2:b=false→q):Way b p q:=⟨h1,h2⟩
theorem Zfi {c:Prop} [Decidable c] {p q:Prop} (h1:c→p) (h2:¬c→q):Way (decide c) p q:=⟨fun h=>h1 (of_decide_eq_true h),fun h=>h2 (of_decide_eq_false h)⟩
theorem Zqp {c:Prop} [Decidable c] {p q:Prop} (h1:¬c→p) (h2:c→q):Way (!decide c) p q:=⟨fun h=>h1 (by simpa using h),fun h=>h2 (by simpa using h)⟩
theorem Zyu {b:Bool} {p q:Prop} (h1:b=false→p) (h2:b=true→q):Way (!b) p q:=⟨fun h=>h1 (by simpa using h),fun h=>h2 (by simpa using h)⟩
theorem ZlT {c:Prop} [Decidable c] {p q:Prop} (h1:c→p) (h2:¬c→q):WayG (decide c) true p q:=⟨fun h=>h1 (of_decide_eq_true h),fun h=>h2 (of_decide_eq_false h)⟩
theorem Zwp {c:Prop} [Decidable c] {p q:Prop} (h1:¬c→p) (h2:c→q):WayG (decide c) false p q:=⟨fun h=>h1 (of_decide_eq_false h),fun h=>h2 (of_decide_eq_true h)⟩
theorem ZtC {c:Prop} [Decidable c] {p q:Prop} (h1:¬c→p) (h2:c→q):WayG (!decide c) true p q:=⟨fun h=>h1 (by simpa using h),fun h=>h2 (by simpa using h)⟩
theorem ZtD {c:Prop} [Decidable c] {p q:Prop} (h1:c→p) (h2:¬c→q):WayG (!decide c) false p q:=⟨fun h=>h1 (by simpa using h),fun h=>h2 (by simpa using h)⟩
theorem wayT {b:Bool} {p q:Prop} (h1:b=true→p) (h2:b=false→q):WayG b true p q:=⟨h1,h2⟩
theorem wayF {b:Bool} {p q:Prop} (h1:b=false→p) (h2:b=true→q):WayG b false p q:=⟨h1,h2⟩
def ZtR (T:Tys) (P:Program) (hr hl:ZW) (b:Code) (K:Exit→St→Prop):Exit→St→Prop
 | .normal,s'=>cVC T P hr hl b s' K
 |e,s'=>K e s'
def ZlI (id:Nat) (K:Exit→St→Prop):Exit→St→Prop
 | .exit i,s'=>bif i==id then K .normal s' else K (.exit i) s'
 |e,s'=>K e s'
section
variable {T:Tys} {P:Program} {hr hl:ZW} {s:St} {K:Exit→St→Prop}
@[congr] theorem cVC_congr {c:Code} {s':St} (e:mark s=s'):cVC T P hr hl c s K=cVC T P hr hl c s' K:=by subst e;rfl
@[congr] theorem Zyg {x y:Code} {v v':V} (e:mark v=v'):Zoh T P hr hl x y s K v=Zoh T P hr hl x y s K v':=by subst e;rfl
@[congr] theorem Zx7 {c:Code} {k k':List Nat} {s':St} (e0:mark k=k') (e:s=s'):Zai T P hr hl c k s K=Zai T P hr hl c k' s' K:=by subst e0;subst e;rfl
@[congr] theorem Zy1 {α:Type} {st:α→St} {inv:α→Prop} {m:α→Nat} {x:α} {s s':St} (h1:mark s=s'):ZaO st inv m x s=ZaO st inv m x s':=by subst h1;rfl
@[congr] theorem ZxY {α:Type} {keep:List Nat} {st:α→St} {inv:α→Prop} {m:α→Nat} {x:α} {e e':Exit} {s' s'':St} (h1:mark e=e') (h2:s'=s''):ZkX keep st inv m x K e s'=ZkX keep st inv m x K e' s'':=by subst h1;subst h2;rfl
@[congr] theorem Req_congr {p p' q:Prop} (h:mark p=p'):Req p q=Req p' q:=by subst h;rfl
@[congr] theorem Way_congr {b b':Bool} {p q:Prop} (h:mark b=b'):Way b p q=Way b' p q:=by subst h;rfl
@[congr] theorem WayG_congr {b b' w:Bool} {p q:Prop} (h:mark b=b'):WayG b w p q=WayG b' w p q:=by subst h;rfl
@[go_sem] theorem Req_true {q:Prop}:Req True q=q:=by simp [Req]
@[go_sem] theorem Way_true {p q:Prop}:Way true p q=p:=by simp [Way]
@[go_sem] theorem Way_false {p q:Prop}:Way false p q=q:=by simp [Way]
@[go_sem] theorem WayG_tt {p q:Prop}:WayG true true p q=p:=by simp [WayG]
@[go_sem] theorem WayG_ff {p q:Prop}:WayG false false p q=p:=by simp [WayG]
@[go_sem] theorem WayG_tf {p q:Prop}:WayG true false p q=q:=by simp [WayG]
@[go_sem] theorem WayG_ft {p q:Prop}:WayG false true p q=q:=by simp [WayG]
@[congr] theorem ZyE {b:Code} {e e':Exit} {s':St} (h1:mark e=e') (h2:s=s'):ZtR T P hr hl b K e s=ZtR T P hr hl b K e' s':=by subst h1;subst h2;rfl
@[congr] theorem Zyi {b:Nat} {e e':Exit} {s':St} (h1:mark e=e') (h2:s=s'):ZlI b K e s=ZlI b K e' s':=by subst h1;subst h2;rfl
@[congr] theorem ZyO {all l:List Oper} {i i':Nat} {s':St} {K:St→Prop} (e0:mark i=i') (e:s=s'):Zaz T P all i l s K=Zaz T P all i' l s' K:=by subst e0;subst e;rfl
@[congr] theorem Zye {all l:List Oper} {i i':Nat} {s':St} {fs:List Foot} {K:St→List Foot→Prop} (e0:mark i=i') (e:s=s'):Zen T P all i l s fs K=Zen T P all i' l s' fs K:=by subst e0;subst e;rfl
@[congr] theorem Zzv {n n':Nat} {all:List Oper} {fs:List Foot} (e:mark n=n'):ZpW n all fs=ZpW n' all fs:=by subst e;rfl
@[go_sem] theorem c_skip:cVC T P hr hl .skip s K=K .normal s:=rfl
@[go_sem] theorem c_seq {a b:Code}:cVC T P hr hl (.seq a b) s K=cVC T P hr hl a s (ZtR T P hr hl b K):=by
 simp only [cVC];congr 1;funext e s';cases e<;>rfl
@[go_sem] theorem c_region {id:Nat} {ops:List Oper}:cVC T P hr hl (.region id ops.toArray false) s K=Zaz T P ops 0 ops (prep (hr id) s) (K .normal):=rfl
@[go_sem] theorem c_draw {id:Nat} {ops:List Oper}:cVC T P hr hl (.region id ops.toArray true) s K=
  Zen T P ops 0 ops (prep (hr id) s) [] fun s' fs=>Req (ZpW 0 ops fs) (K .normal s'):=rfl
@[go_sem] theorem c_cond {c:Operand} {x y:Code}:cVC T P hr hl (.cond c x y) s K=Zoh T P hr hl x y s K (ev s.env c):=by
 simp only [cVC];generalize ev s.env c=v;cases v with
 |d x=>cases x<;>rfl
 |_=>rfl
@[go_sem] theorem c_block {id:Nat} {c:Code}:cVC T P hr hl (.block id c) s K=cVC T P hr hl c s (ZlI id K):=by
 simp only [cVC];congr 1;funext e s';cases e<;>simp only [ZlI];rename_i i;by_cases h:i=id<;>simp [h]
@[go_sem] theorem c_loop {c:Code}:cVC T P hr hl (.loop c) s K=Zai T P hr hl c (hl (Zam c)) (prep (hl (Zam c)) s) K:=by
 simp only [cVC,Zai];congr 1;funext α;congr 1;funext st;congr 1;funext inv;congr 1;funext m;congr 1;refine forall_congr fun x=>?_;refine forall_congr fun hx=>?_;congr 1;funext e s';cases e<;>rfl
@[go_sem] theorem c_exit {id:Nat}:cVC T P hr hl (.exit id) s K=K (.exit id) s:=rfl
@[go_sem] theorem c_ret:cVC T P hr hl .ret s K=K .ret s:=rfl
@[go_sem] theorem c_label {l:Nat}:cVC T P hr hl (.label l) s K=K .normal s:=rfl
end
end Go.Rx
