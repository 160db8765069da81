/-
  Part E5: lemmas on an evaluator over plain data of the model's code, plain laws on lists and numbers, or contracts of functions of the program; each lemma names its conditions.
-/
import Derived.Test.YtflimjgjgligeaaGreatSE4
import Derived.KernelRfl

set_option linter.unusedSimpArgs false
set_option linter.unusedVariables false
namespace Go.Rx
open Go Go.RowKit
def evF (e:Nat→V):Operand→V
 | .tmp t=>e t
 | .const v=>Zmd v
 | .global _=> .dead
 | .func f=> .d (.clo f [])
theorem ZnY (env:List (Nat×V)):ev env=evF (eget env):=by funext x;cases x<;>rfl
def put1 (e:Nat→V) (dst:Option Nat) (v:V):Nat→V:=fun t=>if dst=some t then v else e t
structure ZiM where
 size:Nat
 pin:Nat→Bool
 val:Nat→Value
def ZiM.can (N:ZiM) (d:Nat):Prop:=d<N.size∧N.pin d=false
structure SRo (okIn U:Nat→Prop) (w0:World) (N:ZiM) (p:Nat→Prop) (e:Nat→V) (H:Heap) (a:Act) (w:World) (ok:Nat→Prop) (lam:Nat→Option Nat):Prop where
 ctx:Ctx okIn U w0 p w ok lam H
 rel:∀t,VRel w ok lam H (e t) (a.tmps.getD t undef)
 good:∀t,ZaJ p (e t)
 size:a.tmps.size=N.size
 pin:∀t,N.pin t=true→a.tmps.getD t undef=N.val t
 defers:a.defers=[]
 fr:Fr2 U w0 w0 w
def SR (okIn U:Nat→Prop) (w0:World) (N:ZiM) (p:Nat→Prop) (e:Nat→V) (H:Heap) (a:Act) (w:World):Prop:=
 ∃ok lam,SRo okIn U w0 N p e H a w ok lam
section
variable {P:Program} {T:Tys} {okIn U:Nat→Prop} {w0:World} {N:ZiM} {p p':Nat→Prop} {e:Nat→V} {H H':Heap} {a:Act} {w w':World} {ok ok':Nat→Prop} {lam lam':Nat→Option Nat} {v0:V} {cv:Value}
theorem Fr2.trans {w1 w2:World} (h1:Fr2 U w0 w0 w1) (h2:Fr2 U w0 w1 w2):Fr2 U w0 w0 w2 where
 os:=h2.os.trans h1.os
 tape:=h2.tape.trans h1.tape
 output:=h2.output.trans h1.output
 size:=Nat.le_trans h1.size h2.size
 block k hk hn:=(h2.block k (Nat.lt_of_lt_of_le hk h1.size) hn).trans (h1.block k hk hn)
 sized:=h1.sized.trans h2.sized
theorem Act.getD_put {a:Act} {dst:Option Nat} {v:Value} (hd:∀d,dst=some d→d<a.tmps.size) (t:Nat):
  (a.put dst v).tmps.getD t undef=if dst=some t then v else a.tmps.getD t undef:=by
 cases dst with
 |none=>simp [Act.put]
 |some d=>
  have:=hd d rfl;simp only [Act.put,Option.some.injEq];by_cases hdt:d=t
  ·subst hdt;simp [Array.getD,this]
  ·rw [if_neg hdt];by_cases ht:t<a.tmps.size<;>simp [Array.getD,ht,Array.getElem_setIfInBounds,hdt]
theorem Act.size_put {a:Act} {dst:Option Nat} {v:Value}:(a.put dst v).tmps.size=a.tmps.size:=by
 cases dst<;>simp [Act.put]
theorem Act.defers_put {a:Act} {dst:Option Nat} {v:Value}:(a.put dst v).defers=a.defers:=by
 cases dst<;>rfl
theorem SRo.step (h:SRo okIn U w0 N p e H a w ok lam) (hpp:∀n,p n→p' n) {dst:Option Nat} (hd:∀d,dst=some d→N.can d) (hE:Eff okIn U w0 p p' w ok lam H v0 H' w' cv lam' ok'):
  SRo okIn U w0 N p' (put1 e dst v0) H' (a.put dst cv) w' ok' lam' where
 ctx:=hE.ctx
 rel t:=by
  rw [Act.getD_put (by rw [h.size];exact fun d h=>(hd d h).1)];unfold put1;by_cases hdt:dst=some t
  ·rw [if_pos hdt,if_pos hdt];exact hE.val
  ·rw [if_neg hdt,if_neg hdt];exact hE.stab _ _ (h.good t) (h.rel t)
 good t:=by
  unfold put1;by_cases hdt:dst=some t
  ·rw [if_pos hdt];exact hE.vgood
  ·rw [if_neg hdt];exact (h.good t).mono hpp
 size:=Act.size_put.trans h.size
 pin t ht:=by
  rw [Act.getD_put (by rw [h.size];exact fun d h=>(hd d h).1),if_neg]
  ·exact h.pin t ht
  ·intro hdt;have:=(hd t hdt).2;rw [ht] at this;cases this
 defers:=Act.defers_put.trans h.defers
 fr:=Fr2.trans h.fr hE.fr
theorem SRo.skip (h:SRo okIn U w0 N p e H a w ok lam) {dst:Option Nat} (hd:∀d,dst=some d→N.can d):
  SRo okIn U w0 N p (put1 e dst (.d .und)) H (a.put dst undef) w ok lam:=
 h.step (fun _ h=>h) hd (Eff.quiet h.ctx (fun _ h=>h) (.d .und) (.d _))
theorem SRo.mono (h:SRo okIn U w0 N p e H a w ok lam) (hpp:∀n,p n→p' n):SRo okIn U w0 N p' e H a w ok lam where
 ctx:=⟨h.ctx.hok,fun n o ho=>(h.ctx.good n o ho).mono hpp,fun n hn=>hpp n (h.ctx.dom n hn),h.ctx.okb,h.ctx.ownb,h.ctx.size⟩
 rel:=h.rel
 good t:=(h.good t).mono hpp
 size:=h.size
 pin:=h.pin
 defers:=h.defers
 fr:=h.fr
theorem SRo.drawn (h : SRo okIn U w0 N p e H a w ok lam) (k : Nat) : SRo okIn U w0 N p e H a { w with drawn := k } ok lam := by
  have hc : Chg (fun _ => True) w ok lam H { w with drawn := k } ok lam H := Chg.of_old (fun _ _ => rfl) h.ctx.hok.oklt (fun _ h => h) (fun _ _ => .inr rfl) (fun _ _ _ => rfl);have hg : ∀ o, Zgg (fun _ => True) o := fun o => by cases o with | box c => exact fun v _ => ZaJ.all v | arr => trivial
  exact { ctx := ⟨⟨h.ctx.hok.inj, h.ctx.hok.lt, h.ctx.hok.dis, h.ctx.hok.oklt, fun n o ho => Zcn.chg hc trivial (by rw [ho]; simp) (hg o) (fun _ _ => rfl) (h.ctx.hok.obj n o ho)⟩, h.ctx.good, h.ctx.dom, h.ctx.okb, h.ctx.ownb, h.ctx.size⟩
          rel := fun t => hc.v (h.rel t) (ZaJ.all _)
          good := h.good
          size := h.size
          pin := h.pin
          defers := h.defers
          fr := ⟨h.fr.os, h.fr.tape, h.fr.output, h.fr.size, h.fr.block, h.fr.sized⟩ }
theorem Zk4 (v:Value):VRel w ok lam H (Zeg v) v:=by
 cases v with
 |int k n=>exact .d (.int k n)
 |bool b=>exact .d (.bool b)
 |string s=>
  simp only [Zeg];cases hl:s.data.toList.length.ble 4096 with
  |false=>exact .dead
  |true=>
   have:s.data.toList.length≤LEN:=by have:=Nat.le_of_ble_eq_true hl;unfold LEN;omega
   exact .d (.str _ this)
 |pointer A=>cases A with
  |none=>exact .d .nilp
  |some A=>exact .dead
 |slice A l c=>cases A with
  |none=>
   cases l with
   |zero=>cases c with
    |zero=>exact .nils
    |succ c=>exact .dead
   |succ l=>exact .dead
  |some A=>exact .dead
 |_=>exact .dead
theorem Zuq (v:Value):VRel w ok lam H (Zmd v) v:=by
 have key:∀(cs:Array Value),Rel2 (VRel w ok lam H) (cs.toList.map Zeg) cs.toList:=fun cs=>⟨by simp,fun i x y hx hy=>by
  rw [List.getElem?_map,hy] at hx;simp at hx;subst hx;exact Zk4 y⟩
 cases v with
 |agg cs=>exact VRel.mkAgg (key cs)
 |tuple cs=>exact VRel.mkTup (key cs)
 |_=>simp only [Zmd];exact Zk4 _
theorem ZgC (v:Value):ZaJ p (Zeg v):=by
 unfold Zeg;split<;>first|exact .d _|exact .nils|exact .dead|(cases List.length _|>.ble 4096<;>first|exact .d _|exact .dead)
theorem ZrS (v:Value):ZaJ p (Zmd v):=by
 cases v with
 |agg cs=>exact .agg fun x hx=>by obtain ⟨y,_,rfl⟩:=List.mem_map.1 hx;exact ZgC y
 |tuple cs=>exact .tup fun x hx=>by obtain ⟨y,_,rfl⟩:=List.mem_map.1 hx;exact ZgC y
 |_=>simp only [Zmd];exact ZgC _
theorem SRo.ev (h:SRo okIn U w0 N p e H a w ok lam) (x:Operand):VRel w ok lam H (evF e x) (a.eval x):=by
 cases x with
 |tmp t=>exact h.rel t
 |const v=>exact Zuq v
 |global g=>exact .dead
 |func f=>exact .d (.clo f [] [] rfl fun i d v h1 _=>by simp at h1)
theorem SRo.evGood (h:SRo okIn U w0 N p e H a w ok lam) (x:Operand):ZaJ p (evF e x):=by
 cases x with
 |tmp t=>exact h.good t
 |const v=>exact ZrS v
 |global g=>exact .dead
 |func f=>exact .d _
def Acts (T : Tys) (P : Program) (all : List Oper) (i : Nat) (o : Oper) (e : Nat → V) (H : Heap) (v : V) (u : Upd) (f : Foot) : Prop :=
  match o.guard with
  | none => opVC T P i o (evF e) H (eqK v u) ∧ f = ⟨Zid o, o.dst, rdN o (evF e) H, u.map (·.1)⟩
  | some (j, want) => ∃ t, Zfe all j = some t ∧
    ((e t = .d (.bool want) ∧ opVC T P i o (evF e) H (eqK v u) ∧ f = ⟨t :: Zid o, o.dst, rdN o (evF e) H, u.map (·.1)⟩) ∨
     ((e t = .d (.bool (!want)) ∨ e t = .d .und) ∧ v = .d .und ∧ u = [] ∧ f = ⟨[t], o.dst, [], []⟩))
theorem Zrt {ops:Array Oper} {tmps:Array Value} {j t:Nat} (hg:Zfe ops.toList j=some t):yielded ops tmps j=(match tmps.getD t undef with| .bool b=>some b|_=>none):=by
 unfold Zfe at hg;unfold yielded;have:(ops[j]?).bind (·.dst)=some t:=by rw [←Array.getElem?_toList];exact hg
 rw [this];simp only [Option.bind_some];rcases Nat.lt_or_ge t tmps.size with hlt|hge
 ·simp [Array.getD,hlt];split<;>simp_all
 ·simp [Array.getD,Nat.not_lt.2 hge,undef]
theorem Zv7 (hT:TyOK P T) (h:SR okIn U w0 N p e H a w) {ops:Array Oper} {i:Nat} {o:Oper} (hi:ops[i]? =some o) (hf:Zey p (1000*(i+1))) (hd:∀d,o.dst=some d→N.can d)
  {u:Upd} {f:Foot} (hA:Acts T P ops.toList i o e H v0 u f) {Q:Exit→Act→World→Prop} {K:Act→World→Prop}
  (hK:∀a' w',SR okIn U w0 N (pX p (1000*(i+1))) (put1 e o.dst v0) (updF u H) a' w'→K a' w'):wpOp P ops Q i K a w:=by
 obtain ⟨ok,lam,h⟩:=h;have run:opVC T P i o (evF e) H (eqK v0 u)→o.wp P a w K Q:=fun hop=>
  Oper.wp_mono (fun a' w' ⟨cv,lam',ok',ha,hE⟩=>hK a' w' ⟨ok',lam',by rw [ha];exact h.step (fun n hn=> .inl hn) hd hE⟩) (ZwP hT h.ctx hf h.ev h.evGood hop)
 have skip:v0= .d .und→u=[]→K (a.put o.dst undef) w:=fun hv hu=>hK _ _ ⟨ok,lam,by rw [hv,hu];exact (h.skip hd).mono fun n hn=> .inl hn⟩
 unfold wpOp;rw [hi];simp only;cases hgd:o.guard with
 |none=>
  simp only [Acts,hgd] at hA;simp only [Region.wanted,hgd,if_true];exact .inl (run hA.1)
 |some q=>
  obtain ⟨j,want⟩:=q;simp only [Acts,hgd] at hA;obtain ⟨t,ht,hA⟩:=hA;have hy:=Zrt (tmps:=a.tmps) ht;have hr:=h.rel t;simp only [Region.wanted,hgd];rcases hA with ⟨he,hop,_⟩|⟨he,hv,hu,_⟩
  ·rw [he] at hr;have:a.tmps.getD t undef= .bool want:=by generalize a.tmps.getD t undef=y at hr;cases hr.inv_d;rfl
   rw [hy,this];simp only [beq_self_eq_true,if_true];exact .inl (run hop)
  ·have hn:(yielded ops a.tmps j==some want)=false:=by
    rw [hy];rcases he with he|he
    ·rw [he] at hr;have:a.tmps.getD t undef= .bool (!want):=by generalize a.tmps.getD t undef=y at hr;cases hr.inv_d;rfl
     rw [this];cases want<;>rfl
    ·rw [he] at hr;have:a.tmps.getD t undef=undef:=by generalize a.tmps.getD t undef=y at hr;cases hr.inv_d;rfl
     rw [this];rfl
   rw [hn];simp only [Bool.false_eq_true,if_false];exact skip hv hu
end
end Go.Rx
namespace Go.Rx
open Go Go.RowKit
theorem Zem (s:St) (dst:Option Nat) (v:V) (u:Upd):eget (s.app dst v u).env=put1 (eget s.env) dst v:=by
 funext t;cases dst with
 |none=>simp [St.app,put1]
 |some d=>
  simp only [St.app,eget,put1,Option.some.injEq];by_cases h:d=t
  ·simp [h]
  ·have:(d==t)=false:=by simpa using h
   rw [this,if_neg h];rfl
theorem ZtM (q:Nat×Option AObj) (H:Upd):uget (q::H)=fun n=>if q.1=n then q.2 else uget H n:=by
 funext n;obtain ⟨k,o⟩:=q;simp only [uget];by_cases h:k=n
 ·simp [h]
 ·have:(k==n)=false:=by simpa using h
  rw [this,if_neg h];rfl
theorem Zws (u H:Upd):uget (u.reverse++H)=updF u (uget H):=by
 induction u generalizing H with
 |nil=>rfl
 |cons q u ih=>
  rw [List.reverse_cons,List.append_assoc,List.singleton_append,ih,ZtM];rfl
theorem ZfL (s:St) (dst:Option Nat) (v:V) (u:Upd):uget (s.app dst v u).H=updF u (uget s.H):=Zws u s.H
theorem Zm9 {e:Nat→V} {t:Nat} {v:V} (h:e t=v):put1 e (some t) v=e:=by
 funext k;unfold put1;by_cases hk:t=k
 ·subst hk;rw [if_pos rfl,h]
 ·rw [if_neg (by simpa using hk)]
theorem ZnH {all:List Oper} {env:List (Nat×V)} {j:Nat} (h:Zgp all env j≠ .dead):∃t,Zfe all j=some t∧Zgp all env j=eget env t:=by
 unfold Zgp at h ⊢;unfold Zfe;cases ha:all[j]? with
 |none=>rw [ha] at h;exact absurd rfl h
 |some o=>
  rw [ha] at h;simp only at h;simp only [Option.bind_some];cases hd:o.dst with
  |none=>rw [hd] at h;exact absurd rfl h
  |some t=>exact ⟨t,rfl,rfl⟩
section
variable {P:Program} {T:Tys} {okIn U:Nat→Prop} {w0:World} {N:ZiM} {Q:Exit→Act→World→Prop}
def Lt (k n:Nat):Prop:=n<k
theorem Zxd (i:Nat):Zey (Lt (1000*(i+1))) (1000*(i+1)):=fun n h1 _ h=>by unfold Lt at h;omega
theorem SR.mono {p p':Nat→Prop} {e:Nat→V} {H:Heap} {a:Act} {w:World} (h:SR okIn U w0 N p e H a w) (hpp:∀n,p n→p' n):SR okIn U w0 N p' e H a w:=
 let ⟨ok,lam,h⟩:=h;⟨ok,lam,h.mono hpp⟩
theorem nil_eq {t d:Nat} {e:Nat} {A:Option Addr} {l c:Nat} {w:World} (ht:P.underlying t=some (.slice e)):(Op.equalIn (d+1) t (.slice A l c) (.slice none 0 0)).run P w= .ok A.isNone w:=by
 simp only [Op.equalIn,Sem.run_bind,run_underlying ht,Result.andThen_ok];cases A<;>rfl
theorem Zuv {t:Nat} {x y:Operand} {e:Nat} {A:Option Addr} {l c:Nat} {w:World} (ht:P.underlying t=some (.slice e)):
  (Zdy .eql t x y (.slice A l c) (.slice none 0 0)).run P w= .ok (.bool A.isNone) w∧(Zdy .neq t x y (.slice A l c) (.slice none 0 0)).run P w= .ok (.bool (!A.isNone)) w:=by
 have heq:(Op.equal t (.slice A l c) (.slice none 0 0)).run P w= .ok A.isNone w:=by
  unfold Op.equal;exact nil_eq (d:=9999) ht
 refine ⟨?_,?_⟩
 ·unfold Zdy;simp only [Sem.run_bind,Zc6 (P:=P) (w:=w) (op:= .eql) (t:=t) (x:=x) (y:=y) (a:= .slice A l c) (b:= .slice none 0 0) (by simp) (by simp),Result.andThen_ok];simp only [binOp,Sem.run_bind,heq,Result.andThen_ok,Sem.run_pure]
 ·unfold Zdy;simp only [Sem.run_bind,Zc6 (P:=P) (w:=w) (op:= .neq) (t:=t) (x:=x) (y:=y) (a:= .slice A l c) (b:= .slice none 0 0) (by simp) (by simp),Result.andThen_ok];simp only [binOp,Sem.run_bind,heq,Result.andThen_ok,Sem.run_pure]
theorem ZjC {ok:Nat→Prop} {lam:Nat→Option Nat} {H:Heap} {w:World} {x:V} {v:Value} {S:Bool→Prop} (hx:VRel w ok lam H x v) (hs:ZhU H x=some S):
  ∃A l c,v= .slice A l c∧S A.isNone:=by
 cases x with
 |d y=>
  cases y with
  |sl xs=>
   simp only [ZhU,Option.some.injEq] at hs;subst hs;have hy:=hx.inv_d;cases hy with
   |sl0 A c=>exact ⟨A,0,c,rfl,fun _=>rfl⟩
   |sl _ m b o cap vs _ _ _ _ _ _=>exact ⟨_,_,_,rfl,fun h=>by simp at h⟩
  |_=>simp [ZhU] at hs
 |own n off len=>
  simp only [ZhU] at hs;split at hs
  ·rename_i m xs hH;simp only [Option.some.injEq] at hs;subst hs;cases hx with|own _ h2=>
   obtain ⟨_,h|⟨b,o,cap,cs,T,fr,h1,h2,_⟩⟩:=h2 m xs hH
   ·exact ⟨_,_,_,h.2.1,fun _=>h.2.2⟩
   ·exact ⟨_,_,_,h2,fun h=>by simp at h⟩
  ·cases hs
 |nils=>
  simp only [ZhU,Option.some.injEq] at hs;subst hs;cases hx;exact ⟨none,0,0,rfl,rfl⟩
 |_=>simp [ZhU] at hs
theorem ZwT (hT:TyOK P T) {ok:Nat→Prop} {lam:Nat→Option Nat} {H:Heap} {w:World} {q:Nat→Prop} {op:BinOp} {t:Nat} {x y:Operand} {a b:V} {va vb:Value} {S:Bool→Prop}
  (hs:(bif isSl (T t) then ZjE H op a b else none)=some S) (ha:VRel w ok lam H a va) (hb:VRel w ok lam H b vb):
  ∃v,S v∧Zbn P w ok lam H q (.d (.bool v)) [] True (Zdy op t x y va vb):=by
 cases hsl:isSl (T t) with
 |false=>rw [hsl] at hs;cases hs
 |true=>
  rw [hsl] at hs;simp only [cond_true] at hs;obtain ⟨e,he⟩:=Zf2 hT hsl;cases b with
  |nils=>
   cases hb;simp only [ZjE] at hs;cases op<;>simp only [reduceCtorEq] at hs
   case eql=>
    obtain ⟨A,l,c,rfl,hS⟩:=ZjC ha hs;exact ⟨A.isNone,hS,_,(Zuv he).1,rfl,.d (.bool _),fun _=> .d _⟩
   case neq=>
    cases hn:ZhU H a with
    |none=>rw [hn] at hs;cases hs
    |some S0=>
     rw [hn] at hs;simp only [Option.map_some,Option.some.injEq] at hs;subst hs;obtain ⟨A,l,c,rfl,hS⟩:=ZjC ha hn;exact ⟨!A.isNone,by simpa using hS,_,(Zuv he).2,rfl,.d (.bool _),fun _=> .d _⟩
  |_=>simp [ZjE] at hs
theorem ZvM (hT:TyOK P T) {ok:Nat→Prop} {lam:Nat→Option Nat} {H:Heap} {w:World} {q:Nat→Prop} {ts:Array Nat} {ty:Nat} {l:List V} {vs:List Value} {K:OK}
  (hv:ZkK H (slTy T ts.toList) l K) (hr:Rel2 (VRel w ok lam H) l vs):
  ∃v,K v []∧Zbn P w ok lam H q v [] True (Builtin.cap_ ts ty ⟨vs⟩):=by
 have hty:slTy T ts.toList=true→∃t e,ts[0]? =some t∧P.underlying t=some (.slice e):=fun h=>by
  unfold slTy at h;cases hh:ts.toList.head? with
  |none=>rw [hh] at h;cases h
  |some t=>
   rw [hh] at h;obtain ⟨e,he⟩:=Zf2 hT (t:=t) h;exact ⟨t,e,by rw [←Array.getElem?_toList,←List.head?_eq_getElem?];exact hh,he⟩
 have run:slTy T ts.toList=true→∀A n c,(Builtin.cap_ ts ty ⟨[.slice A n c]⟩).run P w= .ok (.int .i64 c) w:=fun h A n c=>by
  obtain ⟨t,e,h1,h2⟩:=hty h;simp [Builtin.cap_,h1,run_underlying h2,goInt]
 match l,hv,hr with
 |[.own n off len],hv,hr=>
  obtain ⟨v,rest,rfl,hx,hrest⟩:=hr.uncons;obtain rfl:=hrest.nil_left;obtain ⟨h1,h2⟩:=hv;obtain ⟨m,xs,hn,h3⟩:=Znd h2;cases hx with|own _ g=>
  obtain ⟨_,g|⟨b,o,cap,cs,T',fr,g1,rfl,g3,_⟩⟩:=g m xs hn
  ·obtain ⟨_,rfl,rfl⟩:=g;exact ⟨_,h3 0 (Nat.le_refl _),_,run h1 _ _ _,rfl,.d (.int _ _),fun _=> .d _⟩
  ·exact ⟨_,h3 cap g3,_,run h1 _ _ _,rfl,.d (.int _ _),fun _=> .d _⟩
 |[.d (.sl xs)],hv,hr=>
  obtain ⟨v,rest,rfl,hx,hrest⟩:=hr.uncons;obtain rfl:=hrest.nil_left;obtain ⟨h1,h3⟩:=hv;have hy:=hx.inv_d;cases hy with
  |sl0 A c=>exact ⟨_,h3 c (Nat.zero_le _),_,run h1 _ _ _,rfl,.d (.int _ _),fun _=> .d _⟩
  |sl _ m b o cap vs hc _ _ _ _ _=>exact ⟨_,h3 cap hc,_,run h1 _ _ _,rfl,.d (.int _ _),fun _=> .d _⟩
 |[.nils],hv,hr=>
  obtain ⟨v,rest,rfl,hx,hrest⟩:=hr.uncons;obtain rfl:=hrest.nil_left;obtain ⟨h1,h3⟩:=hv;cases hx;exact ⟨_,h3,_,run h1 _ _ _,rfl,.d (.int _ _),fun _=> .d _⟩
theorem ZrC (hT:TyOK P T) {p:Nat→Prop} {e:Nat→V} {H:Heap} {a:Act} {w:World} (h:SR okIn U w0 N p e H a w) {ops:Array Oper} {i:Nat} {o:Oper} (hi:ops[i]? =some o) (hg:o.guard=none) (hd:∀d,o.dst=some d→N.can d) {K':OK}
  (hv:Zbd T P i o (evF e) H K'):
  opVC T P i o (evF e) H K'∨∃v,K' v []∧∀ {K:Act→World→Prop},(∀a' w',SR okIn U w0 N (pX p (1000*(i+1))) (put1 e o.dst v) H a' w'→K a' w')→wpOp P ops Q i K a w:=by
 obtain ⟨ok,lam,h⟩:=h;have fin:∀ {v:V} {s:Sem Value},execOp a.eval o=(do pure (.value (←s)))→K' v []→Zbn P w ok lam H p v [] True s→
   ∃v,K' v []∧∀ {K:Act→World→Prop},(∀a' w',SR okIn U w0 N (pX p (1000*(i+1))) (put1 e o.dst v) H a' w'→K a' w')→wpOp P ops Q i K a w:=fun {v s} he hk hq=>by
  refine ⟨v,hk,fun {K} hK=>?_⟩;have h1:=ZaQ (Q:=Q) (o:=o) he (Zbn.does (tb:=1000*(i+1)) h.ctx trivial hq);unfold wpOp;rw [hi];simp only [Region.wanted,hg,if_true];exact .inl (Oper.wp_mono (fun a' w' ⟨cv,lam',ok',ha,hE⟩=>hK a' w' ⟨ok',lam',by rw [ha];exact h.step (fun n hn=> .inl hn) hd hE⟩) h1)
 obtain ⟨dst,op,ty,pos,after,guard⟩:=o;cases op with
 |binOp op t x y u=>
  have hv:onNd (bif isSl (T t) then ZjE H op (evF e x) (evF e y) else none) K' (opVC T P i ⟨dst,.binOp op t x y u,ty,pos,after,guard⟩ (evF e) H K'):=hv;cases hs:(bif isSl (T t) then ZjE H op (evF e x) (evF e y) else none) with
  |none=>rw [hs] at hv;exact .inl hv
  |some S=>
   rw [hs] at hv;obtain ⟨v,h1,h2⟩:=ZwT (q:=p) (x:=x) (y:=y) hT hs (h.ev x) (h.ev y);exact .inr (fin (s:=Zdy op t x y (a.eval x) (a.eval y)) rfl (hv v h1) h2)
 |call c=>
  obtain ⟨callee,args,ts⟩:=c;cases callee with
  |builtin b=>
   cases b with
   |cap=>
    have hv:ZkK H (slTy T ts.toList) (args.toList.map (evF e)) K':=hv;obtain ⟨v,h1,h2⟩:=ZvM (q:=p) (ty:=ty) hT hv (vs:=(args.map a.eval).toList) (Zl5 h.ev args);exact .inr (fin (s:=Builtin.cap_ ts ty (args.map a.eval)) (by simp only [execOp,resolve,pure_bind,invoke];rfl) h1 h2)
   |_=>exact .inl hv
  |_=>exact .inl hv
 |_=>exact .inl hv
theorem Zt4 (hT:TyOK P T) {ops:Array Oper} (hdst:∀o∈ops.toList,∀d,o.dst=some d→N.can d) {K:St→Prop}
  (hQ:∀s a w,SR okIn U w0 N (fun _=>True) (eget s.env) (uget s.H) a w→K s→Q .normal a w):
  ∀(l:List Oper) (i:Nat) (s:St) (a:Act) (w:World),ops.toList.drop i=l→SR okIn U w0 N (Lt (1000*(i+1))) (eget s.env) (uget s.H) a w→
   Zaz T P ops.toList i l s K→wpOps P ops Q (List.range' i l.length) a w:=by
 intro l;induction l with
 |nil=>intro i s a w _ h hv;exact hQ s a w (h.mono fun _ _=>trivial) hv
 |cons o l ih=>
  intro i s a w hl h hv;have hi:ops[i]? =some o:=by
   have:=List.getElem?_drop (xs:=ops.toList) (i:=i) (j:=0);rw [hl] at this;rw [←Array.getElem?_toList];simpa using this.symm
  have hl':ops.toList.drop (i+1)=l:=by rw [←List.drop_drop,hl];rfl
  have ho:o∈ops.toList:=by rw [←Array.getElem?_toList] at hi;exact List.mem_of_getElem? hi
  simp only [List.length_cons,List.range'_succ,wpOps_cons];have go:∀ {s':St} {v:V} {u:Upd} {f:Foot},eget s'.env=put1 (eget s.env) o.dst v→uget s'.H=updF u (uget s.H)→
    Acts T P ops.toList i o (eget s.env) (uget s.H) v u f→Zaz T P ops.toList (i+1) l s' K→wpOp P ops Q i (wpOps P ops Q (List.range' (i+1) l.length)) a w:=by
   intro s' v u f he hH hA hs;refine Zv7 hT h hi (Zxd i) (hdst o ho) hA fun a' w' h'=>ih (i+1) s' a' w' hl' ?_ hs
   rw [he,hH];refine h'.mono fun n hn=>?_;unfold pX Lt at hn;unfold Lt;omega
  simp only [Zaz] at hv;cases hg:o.guard with
  |none=>
   rw [hg] at hv;simp only at hv;rw [ZnY] at hv;rcases ZrC (Q:=Q) hT h hi hg (hdst o ho) hv with hv|⟨v,hk,hstep⟩
   ·obtain ⟨v,u,h1,h2⟩:=ZqQ _ hv;refine go (f:=⟨Zid o,o.dst,rdN o (evF (eget s.env)) (uget s.H),u.map (·.1)⟩) (Zem s o.dst v u) (ZfL s o.dst v u) ?_ h2;simp only [Acts,hg];exact ⟨h1,trivial⟩
   ·refine hstep fun a' w' h'=>ih (i+1) _ a' w' hl' ?_ hk
    rw [Zem,ZfL];refine h'.mono fun n hn=>?_;unfold pX Lt at hn;unfold Lt;omega
  |some q=>
   obtain ⟨j,want⟩:=q;rw [hg] at hv;simp only at hv;have hne:Zgp ops.toList s.env j≠ .dead:=by intro h;rw [h] at hv;exact hv
   obtain ⟨t,ht,hgv⟩:=ZnH hne;rw [ht] at hv;cases hx:Zgp ops.toList s.env j with
   |d y=>
    rw [hx] at hv;rw [hx] at hgv;cases y with
    |bool b=>
     simp only at hv;by_cases hb:b=want
     ·have hv:=hv.1 hb;subst hb;have he:eget (s.app (some t) (.d (.bool b)) []).env=eget s.env:=by rw [Zem,Zm9 hgv.symm]
      rw [ZnY,he] at hv;obtain ⟨v,u,h1,h2⟩:=ZqQ _ hv;refine go (f:=⟨t::Zid o,o.dst,rdN o (evF (eget s.env)) (uget s.H),u.map (·.1)⟩) (s':=(s.app (some t) (.d (.bool b)) []).app o.dst v u) (by rw [Zem,he]) (ZfL _ _ _ _) ?_ h2;simp only [Acts,hg];exact ⟨t,ht,.inl ⟨hgv.symm,h1,rfl⟩⟩
     ·have hb':b= !want:=by cases b<;>cases want<;>simp_all
      have hv:=hv.2 hb';have he:eget (s.app (some t) (.d (.bool (!want))) []).env=eget s.env:=by rw [Zem,Zm9 (hb'▸hgv.symm)]
      refine go (f:=⟨[t],o.dst,[],[]⟩) (s':=(s.app (some t) (.d (.bool (!want))) []).app o.dst (.d .und) []) (by rw [Zem,he]) (ZfL _ _ _ _) ?_ hv;simp only [Acts,hg];exact ⟨t,ht,.inr ⟨.inl (hb'▸hgv.symm),by simp⟩⟩
    |und=>
     simp only at hv;refine go (f:=⟨[t],o.dst,[],[]⟩) (s':=s.app o.dst (.d .und) []) (Zem _ _ _ _) (ZfL _ _ _ _) ?_ hv;simp only [Acts,hg];exact ⟨t,ht,.inr ⟨.inr hgv.symm,by simp⟩⟩
    |_=>exact hv.elim
   |_=>rw [hx] at hv;exact hv.elim
end
end Go.Rx
namespace Go.Rx
open Go Go.RowKit
section
variable {α:Type}
def upG (u:List (Nat×α)) (H:Nat→α):Nat→α:=u.foldl (fun h p=>fun n=>if p.1=n then p.2 else h n) H
theorem ZkP:∀ {u:List (Nat×α)} {H:Nat→α} {n:Nat},n∉u.map (·.1)→upG u H n=H n
 |[],_,_,_=>rfl
 |q::u,H,n,h=>by
  have h1:upG (q::u) H n=upG u (fun n=>if q.1=n then q.2 else H n) n:=rfl;rw [h1,ZkP (fun hn=>h (by simp [hn]))];rw [if_neg (fun e=>h (by simp [e]))]
theorem ZgW:∀ {u:List (Nat×α)} {H H':Nat→α} {n:Nat},(n∉u.map (·.1)→H n=H' n)→upG u H n=upG u H' n
 |[],_,_,_,h=>h (by simp)
 |q::u,H,H',n,h=>by
  have h1:∀H:Nat→α,upG (q::u) H n=upG u (fun n=>if q.1=n then q.2 else H n) n:=fun _=>rfl
  rw [h1,h1];refine ZgW fun hn=>?_;by_cases e:q.1=n
  ·rw [if_pos e,if_pos e]
  ·rw [if_neg e,if_neg e];exact h (by simp only [List.map_cons,List.mem_cons,not_or];exact ⟨Ne.symm e,hn⟩)
theorem upG_eq {u:List (Nat×α)} {H H':Nat→α} {n:Nat} (h:n∈u.map (·.1)):upG u H n=upG u H' n:=ZgW fun hn=>absurd h hn
theorem Zwq {u u':List (Nat×α)} {H:Nat→α} (h:∀n,n∈u.map (·.1)→n∉u'.map (·.1)):upG u (upG u' H)=upG u' (upG u H):=by
 funext n;by_cases h1:n∈u.map (·.1)
 ·rw [ZkP (h n h1)];exact upG_eq h1
 ·rw [ZkP h1];exact (ZgW fun _=>(ZkP h1).symm)
def runG (S:Nat→Bool):Nat→List (List (Nat×α))→(Nat→α)→(Nat→α)
 |_,[],σ=>σ
 |k,w::ws,σ=>runG S (k+1) ws (bif S k then upG w σ else σ)
theorem ZdJ {S S':Nat→Bool} {t:Nat}:∀ {k:Nat} {ws:List (List (Nat×α))} {σ σ':Nat→α},
  (∀j w,ws[j]? =some w→S (k+j)≠S' (k+j)→t∉w.map (·.1))→σ t=σ' t→runG S k ws σ t=runG S' k ws σ' t
 |_,[],_,_,_,h=>h
 |k,w::ws,σ,σ',hw,h=>by
  simp only [runG];refine ZdJ (fun j w' hj hne=>hw (j+1) w' (by simpa using hj) (by rwa [←Nat.add_assoc,Nat.add_right_comm])) ?_;have h0:=hw 0 w rfl;simp only [Nat.add_zero] at h0;cases hS:S k<;>cases hS':S' k<;>simp only [cond_true,cond_false]
  ·exact h
  ·rw [ZkP (h0 (by simp [hS,hS']))];exact h
  ·rw [ZkP (h0 (by simp [hS,hS']))];exact h
  ·exact ZgW fun _=>h
theorem ZmY {S:Nat→Bool} {w:List (Nat×α)}:∀ {k:Nat} {ws:List (List (Nat×α))} {σ:Nat→α},
  (∀j w',ws[j]? =some w'→S (k+j)=true→∀n,n∈w.map (·.1)→n∉w'.map (·.1))→runG S k ws (upG w σ)=upG w (runG S k ws σ)
 |_,[],_,_=>rfl
 |k,w'::ws,σ,h=>by
  simp only [runG];have ih:=fun σ=>ZmY (S:=S) (w:=w) (k:=k+1) (ws:=ws) (σ:=σ) (fun j w' hj hS=>h (j+1) w' (by simpa using hj) (by rwa [←Nat.add_assoc,Nat.add_right_comm]));cases hS:S k<;>simp only [cond_true,cond_false]
  ·exact ih σ
  ·rw [←ih,Zwq (h 0 w' rfl (by simpa using hS))]
theorem ZqA {S S':Nat→Bool} {i:Nat} {w:List (Nat×α)}:∀ {k:Nat} {ws:List (List (Nat×α))} {σ:Nat→α},ws[i]? =some w→S (k+i)=false→
  (∀j,S' (k+j)=(S (k+j)||j==i))→(∀j w',i<j→ws[j]? =some w'→S (k+j)=true→∀n,n∈w.map (·.1)→n∉w'.map (·.1))→
  runG S' k ws σ=upG w (runG S k ws σ):=by
 induction i with
 |zero=>
  intro k ws σ hi hS hS' hd;cases ws with
  |nil=>simp at hi
  |cons w0 ws=>
   simp at hi;subst hi;simp only [runG];have h0:=hS' 0;simp only [Nat.add_zero] at h0 hS;rw [h0,hS];simp only [beq_self_eq_true,Bool.or_true,cond_true,cond_false];rw [←ZmY (fun j w' hj hSj=>hd (j+1) w' (by omega) (by simpa using hj) (by rwa [←Nat.add_assoc,Nat.add_right_comm]))];funext t;refine ZdJ (fun j w' hj hne=>?_) rfl
   exfalso
   apply hne;have:=hS' (j+1);rw [←Nat.add_assoc,Nat.add_right_comm] at this;simpa using this
 |succ i ih=>
  intro k ws σ hi hS hS' hd;cases ws with
  |nil=>simp at hi
  |cons w0 ws=>
   simp at hi;simp only [runG];have h0:=hS' 0;simp only [Nat.add_zero] at h0;rw [h0];have:(0==i+1)=false:=rfl;rw [this,Bool.or_false];refine ih hi (by rwa [←Nat.add_assoc,Nat.add_right_comm] at hS) (fun j=>?_) (fun j w' hj hw hSj=>hd (j+1) w' (by omega) (by simpa using hw) (by rwa [←Nat.add_assoc,Nat.add_right_comm]));have:=hS' (j+1);rw [←Nat.add_assoc,Nat.add_right_comm] at this;rw [this];simp
theorem Zjp {S:Nat→Bool}:∀ {i k:Nat} {ws:List (List (Nat×α))} {σ:Nat→α},(∀j,S (k+j)=decide (j<i))→runG S k ws σ=runG (fun _=>true) 0 (ws.take i) σ:=by
 intro i;have none:∀ {k:Nat} {ws:List (List (Nat×α))} {σ:Nat→α},(∀j,S (k+j)=false)→runG S k ws σ=σ:=by
  intro k ws;induction ws generalizing k with
  |nil=>intros;rfl
  |cons w ws ih=>
   intro σ h;simp only [runG];have h0:=h 0;simp only [Nat.add_zero] at h0;rw [h0,ih (fun j=>by have:=h (j+1);rwa [←Nat.add_assoc,Nat.add_right_comm] at this)];rfl
 have shift:∀ {k k':Nat} {ws:List (List (Nat×α))} {σ:Nat→α},runG (fun _=>true) k ws σ=runG (fun _=>true) k' ws σ:=by
  intro k k' ws;induction ws generalizing k k' with
  |nil=>intros;rfl
  |cons w ws ih=>intro σ;simp only [runG];exact ih
 induction i with
 |zero=>intro k ws σ h;rw [none (fun j=>by rw [h j];simp)];rfl
 |succ i ih=>
  intro k ws σ h;cases ws with
  |nil=>rfl
  |cons w ws=>
   simp only [runG,List.take_succ_cons];have h0:=h 0;simp only [Nat.add_zero] at h0;rw [h0,ih (fun j=>by have:=h (j+1);rw [←Nat.add_assoc,Nat.add_right_comm] at this;rw [this];simp)];simp only [Nat.zero_lt_succ,decide_true,cond_true];exact shift
end
theorem ZlW (u:Upd) (H:Heap):updF u H=upG u H:=rfl
def dstW (dst:Option Nat) (v:V):List (Nat×V):=dst.toList.map fun d=>(d,v)
theorem Zl8 (e:Nat→V) (dst:Option Nat) (v:V):put1 e dst v=upG (dstW dst v) e:=by
 cases dst with
 |none=>funext t;simp [put1,dstW,upG]
 |some d=>funext t;simp [put1,dstW,upG]
theorem Zn4 (dst:Option Nat) (v:V) (n:Nat):n∈(dstW dst v).map (·.1)↔dst=some n:=by
 cases dst<;>simp [dstW,eq_comm]
end Go.Rx
namespace Go.Rx
open Go Go.RowKit
structure Ef where
 dst:Option Nat
 v:V
 u:Upd
 f:Foot
inductive Runs (T:Tys) (P:Program) (all:List Oper):Nat→List Oper→(Nat→V)→Heap→List Ef→(Nat→V)→Heap→Prop
 |nil (i:Nat) (e:Nat→V) (H:Heap):Runs T P all i [] e H [] e H
 |cons {i:Nat} {o:Oper} {l:List Oper} {e:Nat→V} {H:Heap} {v:V} {u:Upd} {f:Foot} {es:List Ef} {e':Nat→V} {H':Heap}
   (h:Acts T P all i o e H v u f) (hr:Runs T P all (i+1) l (put1 e o.dst v) (updF u H) es e' H'):Runs T P all i (o::l) e H (⟨o.dst,v,u,f⟩::es) e' H'
section
variable {P:Program} {T:Tys} {all:List Oper}
theorem Zvr:∀ {l:List Oper} {i:Nat} {s:St} {fs:List Foot} {K:St→List Foot→Prop},Zen T P all i l s fs K→
  ∃es s',Runs T P all i l (eget s.env) (uget s.H) es (eget s'.env) (uget s'.H)∧K s' ((es.map (·.f)).reverse++fs):=by
 intro l;induction l with
 |nil=>intro i s fs K h;exact ⟨[],s,.nil _ _ _,h⟩
 |cons o l ih=>
  intro i s fs K h;have go:∀ {v:V} {u:Upd} {f:Foot},Acts T P all i o (eget s.env) (uget s.H) v u f→Zen T P all (i+1) l (s.app o.dst v u) (f::fs) K→
    ∃es s',Runs T P all i (o::l) (eget s.env) (uget s.H) es (eget s'.env) (uget s'.H)∧K s' ((es.map (·.f)).reverse++fs):=by
   intro v u f hA hd;obtain ⟨es,s',h1,h2⟩:=ih hd;rw [Zem,ZfL] at h1;exact ⟨_,s',.cons hA h1,by simpa using h2⟩
  simp only [Zen] at h;cases hg:o.guard with
  |none=>
   rw [hg] at h;simp only at h;rw [ZnY] at h;obtain ⟨v,u,h1,h2⟩:=ZqQ _ h;refine go (v:=v) (u:=u) ?_ h2;simp only [Acts,hg];exact ⟨h1,trivial⟩
  |some q=>
   obtain ⟨j,want⟩:=q;rw [hg] at h;simp only at h;have hne:Zgp all s.env j≠ .dead:=by intro h';rw [h'] at h;exact h
   obtain ⟨t,ht,hgv⟩:=ZnH hne;rw [ht] at h;cases hx:Zgp all s.env j with
   |d y=>
    rw [hx] at h;rw [hx] at hgv;cases y with
    |bool b=>
     simp only at h;by_cases hb:b=want
     ·have hw:=h.1 hb;subst hb;rw [ZnY] at hw;obtain ⟨v,u,h1,h2⟩:=ZqQ _ hw;refine go (v:=v) (u:=u) ?_ h2;simp only [Acts,hg];exact ⟨t,ht,.inl ⟨hgv.symm,h1,rfl⟩⟩
     ·have hb':b= !want:=by cases b<;>cases want<;>simp_all
      have h:=h.2 hb';refine go ?_ h;simp only [Acts,hg];exact ⟨t,ht,.inr ⟨.inl (hb'▸hgv.symm),by simp⟩⟩
    |und=>
     simp only at h;refine go ?_ h;simp only [Acts,hg];exact ⟨t,ht,.inr ⟨.inr hgv.symm,by simp⟩⟩
    |_=>exact h.elim
   |_=>rw [hx] at h;exact h.elim
def wE (es:List Ef):List (List (Nat×V)):=es.map fun x=>dstW x.dst x.v
def wH (es:List Ef):List (List (Nat×Option AObj)):=es.map fun x=>x.u
theorem ZfQ {α:Type} {k k':Nat} {ws:List (List (Nat×α))} {σ:Nat→α}:runG (fun _=>true) k ws σ=runG (fun _=>true) k' ws σ:=by
 induction ws generalizing k k' σ with
 |nil=>rfl
 |cons w ws ih=>simp only [runG];exact ih
theorem Runs.at {i:Nat} {l:List Oper} {e:Nat→V} {H:Heap} {es:List Ef} {e':Nat→V} {H':Heap} (h:Runs T P all i l e H es e' H'):
  es.length=l.length∧e'=runG (fun _=>true) 0 (wE es) e∧H'=runG (fun _=>true) 0 (wH es) H∧
  ∀(k:Nat) o,l[k]? =some o→∃x,es[k]? =some x∧x.dst=o.dst∧
   Acts T P all (i+k) o (runG (fun _=>true) 0 ((wE es).take k) e) (runG (fun _=>true) 0 ((wH es).take k) H) x.v x.u x.f:=by
 induction h with
 |nil i e H=>exact ⟨rfl,rfl,rfl,fun k o hk=>by simp at hk⟩
 | @cons i o l e H v u f es e' H' hA hr ih=>
  obtain ⟨h1,h2,h3,h4⟩:=ih;refine ⟨by simp [h1],?_,?_,fun k o' hk=>?_⟩
  ·rw [h2,Zl8];simp only [wE,List.map_cons,runG,cond_true];exact ZfQ
  ·rw [h3,ZlW];simp only [wH,List.map_cons,runG,cond_true];exact ZfQ
  ·cases k with
   |zero=>
    simp at hk;subst hk;exact ⟨_,rfl,rfl,hA⟩
   |succ k=>
    simp at hk;obtain ⟨x,hx,hd,hA'⟩:=h4 k o' hk;refine ⟨x,by simpa using hx,hd,?_⟩;have e1:i+1+k=i+(k+1):=by omega
    rw [e1,Zl8,ZlW] at hA';simp only [wE,wH,List.map_cons,List.take_succ_cons,runG,cond_true];rw [ZfQ (k:=0+1) (k':=0),ZfQ (k:=0+1) (k':=0)];exact hA'
theorem Acts.foot {i:Nat} {o:Oper} {e:Nat→V} {H:Heap} {v:V} {u:Upd} {f:Foot} (h:Acts T P all i o e H v u f):f.wt=o.dst∧f.wn=u.map (·.1):=by
 unfold Acts at h;split at h
 ·rw [h.2];exact ⟨rfl,rfl⟩
 ·obtain ⟨t,_,h⟩:=h;rcases h with ⟨_,_,h⟩|⟨_,_,hu,h⟩
  ·rw [h];exact ⟨rfl,rfl⟩
  ·rw [h,hu];exact ⟨rfl,rfl⟩
theorem Acts.loc {i:Nat} {o:Oper} {e e':Nat→V} {H H':Heap} {v:V} {u:Upd} {f:Foot} (h:Acts T P all i o e H v u f)
  (he:∀t∈f.rt,e t=e' t) (hH:∀n∈f.rn,H n=H' n):∃f',Acts T P all i o e' H' v u f':=by
 have key:(∀t∈Zid o,e t=e' t)→(∀n∈rdN o (evF e) H,H n=H' n)→opVC T P i o (evF e) H (eqK v u)→opVC T P i o (evF e') H' (eqK v u):=fun h1 h2 hop=>
  ZwR (fun x hx=>by
   cases x with
   |tmp t=>exact h1 t (List.mem_filterMap.2 ⟨.tmp t,by simpa using hx,rfl⟩)
   |_=>rfl) h2 hop
 unfold Acts at h ⊢;split at h
 ·exact ⟨_,key (by rw [h.2] at he;exact he) (by rw [h.2] at hH;exact hH) h.1,rfl⟩
 ·obtain ⟨t,ht,h⟩:=h;rcases h with ⟨hb,hop,hf⟩|⟨hb,hv,hu,hf⟩
  ·rw [hf] at he hH;have h0:=he t (by simp);exact ⟨_,t,ht,.inl ⟨by rw [←h0];exact hb,key (fun k hk=>he k (by simp [hk])) hH hop,rfl⟩⟩
  ·rw [hf] at he;have h0:=he t (by simp);exact ⟨_,t,ht,.inr ⟨by rw [←h0];exact hb,hv,hu,rfl⟩⟩
structure Zts (x y:Foot):Prop where
 tr:∀t,x.wt=some t→t∉y.rt
 rt:∀t,y.wt=some t→t∉x.rt
 tt:∀t,x.wt=some t→y.wt≠some t
 nn:∀n,n∈x.wn→n∉y.wn
 nr:∀n,n∈x.wn→n∉y.rn
 rn:∀n,n∈y.wn→n∉x.rn
theorem Zts.symm {x y:Foot} (h:Zts x y):Zts y x:=⟨h.rt,h.tr,fun t h1 h2=>h.tt t h2 h1,fun n h1 h2=>h.nn n h2 h1,h.rn,h.nr⟩
theorem ZgU {a b:List Nat} (h:Zrr a b=true):∀n,n∈a→n∉b:=fun n hn hb=>by
 have:=List.all_eq_true.1 h n hn;simp at this;exact this hb
theorem Zp4 {x y:Foot} (h:Zv5 x y=true):Zts x y:=by
 unfold Zv5 at h;simp only [Bool.and_eq_true] at h;obtain ⟨⟨⟨⟨h1,h2⟩,h3⟩,h4⟩,h5⟩:=h;refine ⟨fun t ht=>?_,fun t ht=>?_,fun t ht=>?_,ZgU h3,ZgU h4,ZgU h5⟩
 ·rw [ht] at h1;simp at h1;exact h1.1
 ·rw [ht] at h2;simp at h2;exact h2
 ·rw [ht] at h1;simp at h1;exact h1.2
theorem ZuC {n:Nat}:∀ {l acc:List Nat},n∈dd acc l↔n∈acc∨n∈l
 |[],acc=>by simp [dd]
 |m::l,acc=>by
  simp only [dd];cases hc:acc.contains m with
  |true=>
   simp only [cond_true];rw [ZuC];have:m∈acc:=by simpa using hc
   constructor
   ·rintro (h|h)
    ·exact .inl h
    ·exact .inr (by simp [h])
   ·rintro (h|h)
    ·exact .inl h
    ·rcases List.mem_cons.1 h with rfl|h
     ·exact .inl this
     ·exact .inr h
  |false=>
   simp only [cond_false];rw [ZuC];simp only [List.mem_cons];constructor
   ·rintro ((h|h)|h)
    ·exact .inr (.inl h)
    ·exact .inl h
    ·exact .inr (.inr h)
   ·rintro (h|h|h)
    ·exact .inl (.inr h)
    ·exact .inl (.inl h)
    ·exact .inr h
theorem ZvX:∀ {l:List Oper} {acc:List (List Nat)} {i:Nat},acc.length=i→Zml i l=true→
  (∀j,j<i→(befs acc l).getD j []=acc.getD j [])∧
  ∀(j:Nat) o,l[j]? =some o→(∀e∈o.after,Region.binds .any e=true→e.on<i+j)∧
   ∀k,k∈(befs acc l).getD (i+j) []→∃e∈o.after,Region.binds .any e=true∧(k=e.on∨k∈(befs acc l).getD e.on []):=by
 intro l;induction l with
 |nil=>intro acc i _ _;exact ⟨fun _ _=>rfl,fun j o h=>by simp at h⟩
 |cons o l ih=>
  intro acc i hi he;simp only [Zml,Bool.and_eq_true] at he;obtain ⟨he,hel⟩:=he;have hlt:∀e∈o.after,Region.binds .any e=true→e.on<i:=fun e hm hb=>by
   have:=List.all_eq_true.1 he e (by simpa using hm);rw [hb] at this;simpa using this
  simp only [befs];generalize hx:dd [] ((o.after.toList.filter (Region.binds .any)).flatMap fun e=>e.on::acc.getD e.on [])=x;obtain ⟨h1,h2⟩:=ih (acc:=acc++[x]) (i:=i+1) (by simp [hi]) hel;have hold:∀j,j<i→(befs (acc++[x]) l).getD j []=acc.getD j []:=fun j hj=>by
   rw [h1 j (by omega)];rw [List.getD_eq_getElem?_getD,List.getD_eq_getElem?_getD,List.getElem?_append_left (by omega)]
  refine ⟨hold,fun j o' hj=>?_⟩;cases j with
  |zero=>
   simp at hj;subst hj;refine ⟨fun e hm hb=>by have:=hlt e hm hb;omega,fun k hk=>?_⟩;rw [Nat.add_zero,h1 i (by omega),List.getD_eq_getElem?_getD,List.getElem?_append_right (by omega),hi] at hk;simp at hk;rw [←hx,ZuC] at hk;rcases hk with hk|hk
   ·simp at hk
   ·obtain ⟨e,hm,hk⟩:=List.mem_flatMap.1 hk;obtain ⟨hm,hb⟩:=List.mem_filter.1 hm;refine ⟨e,by simpa using hm,hb,?_⟩;rcases List.mem_cons.1 hk with hk|hk
    ·exact .inl hk
    ·exact .inr (by rw [hold e.on (hlt e (by simpa using hm) hb)];exact hk)
  |succ j=>
   simp at hj;have:=h2 j o' hj;have e1:i+1+j=i+(j+1):=by omega
   rwa [e1] at this
end
end Go.Rx
namespace Go.Rx
open Go Go.RowKit
section
variable {P:Program} {T:Tys} {okIn U:Nat→Prop} {w0:World} {N:ZiM} {Q:Exit→Act→World→Prop}
def got (listed:Array Bool) (i:Nat):Bool:=listed.getD i false
def pS (listed:Array Bool) (m:Nat):Prop:=m<1000∨∃i,got listed i=true∧1000*(i+1)≤m∧m<1000*(i+1)+1000
theorem ZjZ {listed:Array Bool} {i:Nat} (h:i<listed.size) (j:Nat):got (listed.setIfInBounds i true) j=(got listed j||j==i):=by
 unfold got;by_cases hij:i=j
 ·subst hij;simp [Array.getD,h]
 ·have:(j==i)=false:=by simpa using fun e=>hij e.symm
  rw [getD_set_ne false hij,this,Bool.or_false]
theorem Zke {listed:Array Bool} {i:Nat} (h:i<listed.size) (hf:got listed i=false):(listed.setIfInBounds i true).toList.count false+1=listed.toList.count false:=by
 have h':i<listed.toList.length:=by simpa using h
 have hi:listed.toList[i]=false:=by unfold got at hf;simpa [Array.getD,h] using hf
 have hpos:0<listed.toList.count false:=List.count_pos_iff.2 (by rw [←hi];exact List.getElem_mem h');rw [Array.toList_setIfInBounds,List.count_set h',hi];have e1:(false==false)=true:=rfl;have e2:(true==false)=false:=rfl;rw [if_pos e1,if_neg (by rw [e2];simp)];omega
theorem Zsw (hT:TyOK P T) {ops:Array Oper} (hdst:∀o∈ops.toList,∀d,o.dst=some d→N.can d) {K:St→Prop}
  (hQ:∀s a w,SR okIn U w0 N (fun _=>True) (eget s.env) (uget s.H) a w→K s→Q .normal a w)
  {s0:St} {a:Act} {w:World} (h0:SR okIn U w0 N (Lt 1000) (eget s0.env) (uget s0.H) a w)
  (hv:Zen T P ops.toList 0 ops.toList s0 [] fun s' fs=>Req (ZpW 0 ops.toList fs) (K s')):
  wpAny P .any ops Q ops.size (Array.replicate ops.size false) a w:=by
 obtain ⟨es,s',hr,hc,hK⟩:=Zvr hv;obtain ⟨hlen,he',hH',hat⟩:=hr.at;simp only [List.append_nil,ZpW,ZvK,Bool.and_eq_true,List.reverse_reverse] at hc;obtain ⟨⟨hedge,_⟩,hcomm⟩:=hc;obtain ⟨_,hbef⟩:=ZvX (l:=ops.toList) (acc:=[]) (i:=0) rfl hedge;have hn:es.length=ops.size:=by rw [hlen];simp
 have hop:∀ {i:Nat} {o:Oper},ops[i]? =some o→ops.toList[i]? =some o:=fun h=>by rw [Array.getElem?_toList];exact h
 have hpair:∀(i j:Nat) x y,j<i→es[i]? =some x→es[j]? =some y→j∉(befs [] ops.toList).getD i []→Zts x.f y.f:=by
  intro i j x y hji hx hy hnb;have hi:i<ops.toList.length:=by
   have:=(List.getElem?_eq_some_iff.1 hx).1;omega
  have h1:=List.all_eq_true.1 hcomm i (List.mem_range.2 hi);have h2:=List.all_eq_true.1 h1 j (List.mem_range.2 hji);rw [List.getElem?_map,List.getElem?_map,hx,hy] at h2;simp only [Option.map_some,Bool.or_eq_true] at h2;rcases h2 with h2|h2
  ·exact absurd (by simpa using h2) hnb
  ·exact Zp4 h2
 have hclosed:∀(S:Nat→Bool),(∀i o,ops[i]? =some o→S i=true→∀e∈o.after,Region.binds .any e=true→S e.on=true)→
   ∀(n i:Nat) o,i<n→ops[i]? =some o→(∀e∈o.after,Region.binds .any e=true→S e.on=true)→∀k∈(befs [] ops.toList).getD i [],S k=true:=by
  intro S hS n;induction n with
  |zero=>intro i o hi;omega
  |succ n ih=>
   intro i o hi ho hall k hk;obtain ⟨hlt,hb⟩:=hbef i o (hop ho);obtain ⟨e,hm,hbe,hcase⟩:=hb k (by simpa using hk);have hon:=hall e hm hbe;rcases hcase with rfl|hk'
   ·exact hon
   ·have hl:=hlt e hm hbe;have hsz:e.on<ops.size:=by
     have:=(Array.getElem?_eq_some_iff.1 ho).1;omega
    obtain ⟨o',ho'⟩:∃o',ops[e.on]? =some o':=⟨_,Array.getElem?_eq_getElem hsz⟩;exact ih e.on o' (by omega) ho' (hS e.on o' ho' hon) k hk'
 have main:∀(fuel:Nat) (listed:Array Bool) (a:Act) (w:World),listed.size=ops.size→listed.toList.count false=fuel→
   (∀i o,ops[i]? =some o→got listed i=true→∀e∈o.after,Region.binds .any e=true→got listed e.on=true)→
   SR okIn U w0 N (pS listed) (runG (got listed) 0 (wE es) (eget s0.env)) (runG (got listed) 0 (wH es) (uget s0.H)) a w→
   wpAny P .any ops Q fuel listed a w:=by
  intro fuel;have fin:∀(listed:Array Bool) (a:Act) (w:World),(∀i,i<ops.size→got listed i=true)→
    SR okIn U w0 N (pS listed) (runG (got listed) 0 (wE es) (eget s0.env)) (runG (got listed) 0 (wH es) (uget s0.H)) a w→Q .normal a w:=by
   intro listed a w hall h;refine hQ s' a w ?_ hK;have h1:runG (got listed) 0 (wE es) (eget s0.env)=eget s'.env:=by
    rw [he'];funext t;refine ZdJ (fun j w' hj hne=>?_) rfl;have:j<(wE es).length:=(List.getElem?_eq_some_iff.1 hj).1;exact absurd (by simpa using hall j (by simpa [wE,hn] using this)) hne
   have h2:runG (got listed) 0 (wH es) (uget s0.H)=uget s'.H:=by
    rw [hH'];funext t;refine ZdJ (fun j w' hj hne=>?_) rfl;have:j<(wH es).length:=(List.getElem?_eq_some_iff.1 hj).1;exact absurd (by simpa using hall j (by simpa [wH,hn] using this)) hne
   rw [h1,h2] at h;exact h.mono fun _ _=>trivial
  have allof:∀(listed:Array Bool),listed.size=ops.size→Region.ready .any ops listed=[]→∀n i,i<n→i<ops.size→got listed i=true:=by
   intro listed hsz hr n;induction n with
   |zero=>intro i hi;omega
   |succ n ih=>
    intro i hi hlt;cases hg:got listed i with
    |true=>rfl
    |false=>
     exfalso
     obtain ⟨o,ho⟩:∃o,ops[i]? =some o:=⟨_,Array.getElem?_eq_getElem hlt⟩;have:i∈Region.ready .any ops listed:=by
      rw [mem_ready];refine ⟨?_,o,ho,fun e hm hb=>?_⟩
      ·have hi':i<listed.size:=by omega
       unfold got at hg;simpa [Array.getD,hi'] using hg
      ·have hl:=(hbef i o (hop ho)).1 e hm hb;exact ih e.on (by omega) (by omega)
     rw [hr] at this;cases this
  induction fuel with
  |zero=>
   intro listed a w hsz hcnt hdc h;have hall:∀i,i<ops.size→got listed i=true:=fun i hi=>by
    cases hg:got listed i with
    |true=>rfl
    |false=>
     have:=Zke (listed:=listed) (i:=i) (by omega) hg;omega
   refine ⟨?_,fin listed a w hall h⟩;cases hr:Region.ready .any ops listed with
   |nil=>rfl
   |cons i rs=>
    exfalso
    have:i∈Region.ready .any ops listed:=by rw [hr];simp
    rw [mem_ready] at this;obtain ⟨h1,o,ho,_⟩:=this;have hi:=(Array.getElem?_eq_some_iff.1 ho).1;have h2:=hall i hi;unfold got at h2;have hi':i<listed.size:=by omega
    simp [Array.getD,hi'] at h1 h2;rw [h1] at h2;cases h2
  |succ fuel ih=>
   intro listed a w hsz hcnt hdc h;refine ⟨fun hr=>fin listed a w (fun i hi=>allof listed hsz hr (i+1) i (by omega) hi) h,fun i hi=>?_⟩;rw [mem_ready] at hi;obtain ⟨hi0,o,ho,hedges⟩:=hi;have hlt:i<ops.size:=(Array.getElem?_eq_some_iff.1 ho).1;have hlt':i<listed.size:=by omega
   have hgi:got listed i=false:=by unfold got;simp [Array.getD,hlt'] at hi0 ⊢;exact hi0
   obtain ⟨x,hx,hxd,hA⟩:=hat i o (hop ho);have hbi:=hclosed (got listed) hdc (i+1) i o (by omega) ho hedges;have hap:∀(j:Nat) y,es[j]? =some y→j≠i→got listed j≠decide (j<i)→Zts x.f y.f:=by
    intro j y hy hji hne;rcases Nat.lt_or_ge j i with hlt2|hge
    ·have hgj:got listed j=false:=by cases hg:got listed j<;>simp [hg,hlt2] at hne ⊢
     exact hpair i j x y hlt2 hx hy fun hb=>by rw [hbi j hb] at hgj;cases hgj
    ·have hlt3:i<j:=by omega
     have hgj:got listed j=true:=by
      cases hg:got listed j
      ·rw [hg] at hne;simp at hne;omega
      ·rfl
     have hjs:j<ops.size:=by have:=(List.getElem?_eq_some_iff.1 hy).1;omega
     obtain ⟨oj,hoj⟩:∃o',ops[j]? =some o':=⟨_,Array.getElem?_eq_getElem hjs⟩;have hbj:=hclosed (got listed) hdc (j+1) j oj (by omega) hoj (hdc j oj hoj hgj);exact (hpair j i y x hlt3 hy hx fun hb=>by rw [hbj i hb] at hgi;cases hgi).symm
   have hft:=hA.foot;have hloc:∃f',Acts T P ops.toList i o (runG (got listed) 0 (wE es) (eget s0.env)) (runG (got listed) 0 (wH es) (uget s0.H)) x.v x.u f':=by
    rw [Nat.zero_add] at hA;refine hA.loc (fun t ht=>?_) (fun n hn'=>?_)
    ·rw [←Zjp (S:=fun j=>decide (j<i)) (k:=0) (i:=i) (fun j=>by simp)];refine ZdJ (fun j w' hj hne=>?_) rfl;simp only [wE,List.getElem?_map,Option.map_eq_some_iff] at hj;obtain ⟨y,hy,rfl⟩:=hj;rw [Zn4];intro hd;rw [Nat.zero_add] at hne;have hji:j≠i:=fun e=>by subst e;rw [hgi] at hne;simp at hne
     have hyf:y.f.wt=y.dst:=by
      have hjs:j<ops.size:=by have:=(List.getElem?_eq_some_iff.1 hy).1;omega
      obtain ⟨oj,hoj⟩:∃o',ops[j]? =some o':=⟨_,Array.getElem?_eq_getElem hjs⟩;obtain ⟨y',hy',hyd,hAy⟩:=hat j oj (hop hoj);rw [hy] at hy';cases hy';rw [hAy.foot.1,hyd]
     exact (hap j y hy hji (Ne.symm hne)).rt t (hyf.trans hd) ht
    ·rw [←Zjp (S:=fun j=>decide (j<i)) (k:=0) (i:=i) (fun j=>by simp)];refine ZdJ (fun j w' hj hne=>?_) rfl;simp only [wH,List.getElem?_map,Option.map_eq_some_iff] at hj;obtain ⟨y,hy,rfl⟩:=hj;intro hd;rw [Nat.zero_add] at hne;have hji:j≠i:=fun e=>by subst e;rw [hgi] at hne;simp at hne
     have hyf:y.f.wn=y.u.map (·.1):=by
      have hjs:j<ops.size:=by have:=(List.getElem?_eq_some_iff.1 hy).1;omega
      obtain ⟨oj,hoj⟩:∃o',ops[j]? =some o':=⟨_,Array.getElem?_eq_getElem hjs⟩;obtain ⟨y',hy',hyd,hAy⟩:=hat j oj (hop hoj);rw [hy] at hy';cases hy';exact hAy.foot.2
     exact (hap j y hy hji (Ne.symm hne)).rn n (by rw [hyf];exact hd) hn'
   obtain ⟨f',hA'⟩:=hloc;have hfresh:Zey (pS listed) (1000*(i+1)):=by
    rintro n h1 h2 (h3|⟨k,hk,h4,h5⟩)
    ·omega
    ·have:k=i:=by omega
     subst this;rw [hgi] at hk;cases hk
   refine Zv7 hT h ho hfresh (hdst o (List.mem_of_getElem? (hop ho))) hA' fun a' w' h'=>?_;refine ih _ a' w' (by simpa using hsz) (by have:=Zke hlt' hgi;omega) (fun k ok hok hgk e hm hb=>?_) ?_
   ·rw [ZjZ hlt'] at hgk ⊢;simp only [Bool.or_eq_true,beq_iff_eq] at hgk ⊢;rcases hgk with hgk|rfl
    ·exact .inl (hdc k ok hok hgk e hm hb)
    ·rw [ho] at hok;cases hok;exact .inl (hedges e hm hb)
   ·have hE:runG (got (listed.setIfInBounds i true)) 0 (wE es) (eget s0.env)=put1 (runG (got listed) 0 (wE es) (eget s0.env)) o.dst x.v:=by
     rw [Zl8,←hxd];refine ZqA (i:=i) (w:=dstW x.dst x.v) (by simp [wE,hx]) (by simpa using hgi) (fun j=>by simpa using ZjZ hlt' j) (fun j w' hij hj hSj n hn1=>?_);simp only [wE,List.getElem?_map,Option.map_eq_some_iff] at hj;obtain ⟨y,hy,rfl⟩:=hj;rw [Zn4] at hn1 ⊢;rw [Nat.zero_add] at hSj;have hjs:j<ops.size:=by have:=(List.getElem?_eq_some_iff.1 hy).1;omega
     obtain ⟨oj,hoj⟩:∃o',ops[j]? =some o':=⟨_,Array.getElem?_eq_getElem hjs⟩;obtain ⟨y',hy',hyd,hAy⟩:=hat j oj (hop hoj);rw [hy] at hy';cases hy';have:=(hap j y hy (by omega) (by rw [hSj];simp;omega)).tt n (by rw [hft.1,←hxd];exact hn1);rw [hAy.foot.1,←hyd] at this;exact this
    have hHh:runG (got (listed.setIfInBounds i true)) 0 (wH es) (uget s0.H)=updF x.u (runG (got listed) 0 (wH es) (uget s0.H)):=by
     rw [ZlW];refine ZqA (i:=i) (w:=x.u) (by simp [wH,hx]) (by simpa using hgi) (fun j=>by simpa using ZjZ hlt' j) (fun j w' hij hj hSj n hn1=>?_);simp only [wH,List.getElem?_map,Option.map_eq_some_iff] at hj;obtain ⟨y,hy,rfl⟩:=hj;rw [Nat.zero_add] at hSj;have hjs:j<ops.size:=by have:=(List.getElem?_eq_some_iff.1 hy).1;omega
     obtain ⟨oj,hoj⟩:∃o',ops[j]? =some o':=⟨_,Array.getElem?_eq_getElem hjs⟩;obtain ⟨y',hy',hyd,hAy⟩:=hat j oj (hop hoj);rw [hy] at hy';cases hy';have:=(hap j y hy (by omega) (by rw [hSj];simp;omega)).nn n (by rw [hft.2];exact hn1);rw [hAy.foot.2] at this;exact this
    rw [hE,hHh];refine h'.mono fun n hn'=>?_;rcases hn' with (h1|⟨k,hk,h2⟩)|h2
    ·exact .inl h1
    ·exact .inr ⟨k,by rw [ZjZ hlt',hk];rfl,h2⟩
    ·exact .inr ⟨i,by rw [ZjZ hlt'];simp,h2⟩
 have hgf:∀i,got (Array.replicate ops.size false) i=false:=fun i=>by
  unfold got;by_cases hi:i<ops.size<;>simp [Array.getD,hi]
 refine main ops.size _ a w (by simp) (by simp) (fun i o _ hg=>by rw [hgf] at hg;cases hg) ?_;have h1:∀ {α:Type} (ws:List (List (Nat×α))) (σ:Nat→α),runG (got (Array.replicate ops.size false)) 0 ws σ=σ:=by
  intro α ws σ;rw [Zjp (i:=0) (fun j=>by rw [hgf];simp)];rfl
 rw [h1,h1];exact h0.mono fun n hn=> .inl hn
end
end Go.Rx
namespace Go.Rx
open Go Go.RowKit
theorem nodup_iff:∀ {l:List Nat},nodup l=true↔l.Nodup
 |[]=>by simp [nodup]
 |n::l=>by
  simp only [nodup,Bool.and_eq_true,Bool.not_eq_true',List.nodup_cons];rw [nodup_iff];simp
theorem Zmp:∀ {l acc:List Nat},acc.Nodup→(dd acc l).Nodup
 |[],acc,h=>by simpa [dd,List.Nodup,List.pairwise_reverse] using h.imp (fun h=>Ne.symm h)
 |n::l,acc,h=>by
  simp only [dd];cases hc:acc.contains n with
  |true=>exact Zmp h
  |false=>exact Zmp (List.nodup_cons.2 ⟨by simpa using hc,h⟩)
theorem ZvN {l:List Nat} (h:nodup l=true):nodup (cap l)=true:=by
 unfold cap;cases decide (l.length<1000)<;>simp [h,nodup]
theorem ZsX (l:List Nat):(cap l).length<1000:=by
 unfold cap;cases h:decide (l.length<1000)
 ·simp
 ·simpa using h
theorem Zjy (h:Heap) (vs:List V):nodup (order h vs)=true:=nodup_iff.2 (Zmp List.nodup_nil)
theorem ZlX (l:List (Nat×AObj)):uget (l.map fun p=>(p.1,some p.2))=hget l:=by
 funext n;induction l with
 |nil=>rfl
 |cons q l ih=>
  obtain ⟨k,o⟩:=q;simp only [List.map_cons,uget,hget];rw [ih]
theorem Zri (f:Nat→V):∀(keep:List Nat) (t:Nat),eget (keep.zip (keep.map f)) t=if t∈keep then f t else .dead
 |[],t=>by simp [eget]
 |k::keep,t=>by
  simp only [List.map_cons,List.zip_cons_cons,eget,List.mem_cons];by_cases h:k=t
  ·subst h;simp
  ·have:(k==t)=false:=by simpa using h
   rw [this,cond_false,Zri f keep t];have h':t≠k:=Ne.symm h;simp [h']
section
variable {P:Program} {T:Tys} {okIn U:Nat→Prop} {w0:World} {N:ZiM} {Q:Exit→Act→World→Prop} {w:World} {ok:Nat→Prop} {lam:Nat→Option Nat} {H:Heap}
theorem Ctx.idx {p:Nat→Prop} (h:Ctx okIn U w0 p w ok lam H) {l:List Nat} (hnd:nodup l=true) {q:Nat→Prop} (hq:∀k,k<l.length→q k):
  Ctx okIn U w0 q w ok (fun k=>(l[k]?).bind lam) (hget (objs H (Go.Rx.idx l) 0 l)):=by
 have key:∀k,hget (objs H (Go.Rx.idx l) 0 l) k≠Option.none→∃n,l[k]? =some n∧H n≠Option.none:=fun k hk=>by
  rw [Zc5] at hk;cases hl:l[k]? with
  |none=>rw [hl] at hk;simp at hk
  |some n=>
   rw [hl] at hk;refine ⟨n,rfl,fun hn=>?_⟩;rw [Option.bind_some,hn] at hk;simp at hk
 refine ⟨h.hok.idx hnd h.hok.oklt (fun _ hb=>hb) (fun k n b _ hn hb=>h.hok.dis n b hn hb),fun k o ho=>?_,fun k hk=>?_,h.okb,fun k b hk hb=>?_,h.size⟩
 ·rw [Zc5] at ho;cases hl:l[k]? with
  |none=>rw [hl] at ho;simp at ho
  |some n=>
   rw [hl,Option.bind_some] at ho;obtain ⟨o',_,rfl⟩:=Option.map_eq_some_iff.1 ho;exact Zm1 (fun n k hn=>hq k (List.getElem?_eq_some_iff.1 (Zho hn)).1) o'
 ·obtain ⟨n,hn,_⟩:=key k hk;exact hq k (List.getElem?_eq_some_iff.1 hn).1
 ·obtain ⟨n,hn,hH⟩:=key k hk;simp only [hn,Option.bind_some] at hb;exact h.ownb n b hH hb
theorem ZhS {p:Nat→Prop} (keep:List Nat) {s:St} {a:Act} (h:SR okIn U w0 N p (eget s.env) (uget s.H) a w):
  SR okIn U w0 N (Lt 1000) (eget (prep keep s).env) (uget (prep keep s).H) a w:=by
 obtain ⟨ok,lam,h⟩:=h;have hlt:=ZsX (order (uget s.H) (keep.map (eget s.env)));have hnd:=ZvN (Zjy (uget s.H) (keep.map (eget s.env)));generalize ho:cap (order (uget s.H) (keep.map (eget s.env)))=o at hlt hnd;have hH:uget (prep keep s).H=hget (objs (uget s.H) (idx o) 0 o):=by
  simp only [prep];rw [ZlX,ho]
 have hE:∀t,eget (prep keep s).env t=if t∈keep then renV (idx o) (eget s.env t) else .dead:=fun t=>by
  simp only [prep];rw [ho,List.map_map];exact Zri (fun t=>renV (idx o) (eget s.env t)) keep t
 have hq:∀n k,idx o n=some k→Lt 1000 k:=fun n k hn=>by
  have:=(List.getElem?_eq_some_iff.1 (Zho hn)).1;unfold Lt;omega
 refine ⟨ok,fun k=>(o[k]?).bind lam,?_,fun t=>?_,fun t=>?_,h.size,h.pin,h.defers,h.fr⟩
 ·rw [hH];exact h.ctx.idx hnd fun k hk=>by unfold Lt;omega
 ·rw [hH,hE];by_cases ht:t∈keep
  ·rw [if_pos ht];exact ZiT (Zl4 (uget s.H) lam o) (h.rel t)
  ·rw [if_neg ht];exact .dead
 ·rw [hE];by_cases ht:t∈keep
  ·rw [if_pos ht];exact Zm0 hq _
  ·rw [if_neg ht];exact .dead
def Zdv (N:Nat→Bool):Code→Bool
 | .region _ ops _=>ops.toList.all fun o=>match o.dst with|some d=>N d|none=>true
 | .seq a b=>Zdv N a&&Zdv N b
 | .cond _ a b=>Zdv N a&&Zdv N b
 | .block _ c| .loop c| .scope c=>Zdv N c
 |_=>true
theorem least {p:Nat→Prop} (h:∃n,p n):∃n,p n∧∀m,p m→n≤m:=by
 obtain ⟨n,hn⟩:=h;induction n using Nat.strongRecOn with
 |_ n ih=>
  by_cases hc:∃m,m<n∧p m
  ·obtain ⟨m,hm,hp⟩:=hc;exact ih m hm hp
  ·exact ⟨n,hn,fun m hm=>Nat.le_of_not_lt fun hlt=>hc ⟨m,hlt,hm⟩⟩
def SRs (okIn U:Nat→Prop) (w0:World) (N:ZiM) (s:St) (a:Act) (w:World):Prop:=SR okIn U w0 N (fun _=>True) (eget s.env) (uget s.H) a w
theorem SR.drawn {p:Nat→Prop} {e:Nat→V} {a:Act} (h:SR okIn U w0 N p e H a w) (k:Nat):SR okIn U w0 N p e H a {w with drawn:=k}:=
 let ⟨ok,lam,h⟩:=h;⟨ok,lam,h.drawn k⟩
theorem ZlB (hT:TyOK P T) {can:Nat→Bool} (hcan:∀d,can d=true→N.can d) (hm:P.follows .mixedOrders=true) (hr hl:ZW):∀(c:Code),Zdv can c=true→∀ {Q:Exit→Act→World→Prop} {K:Exit→St→Prop} {s:St} {a:Act} {w:World},
  (∀e s a w,SRs okIn U w0 N s a w→K e s→Q e a w)→SRs okIn U w0 N s a w→cVC T P hr hl c s K→c.wp P Q a w:=by
 intro c;induction c with
 |skip=>intro _ Q K s a w hQ h hv;exact wp_skip (hQ _ _ _ _ h hv)
 |label l=>intro _ Q K s a w hQ h hv;exact wp_label (hQ _ _ _ _ h hv)
 |exit id=>intro _ Q K s a w hQ h hv;exact wp_exit (hQ _ _ _ _ h hv)
 |ret=>intro _ Q K s a w hQ h hv;exact wp_ret (hQ _ _ _ _ h hv)
 |region id ops draw=>
  intro hd Q K s a w hQ h hv;have hdst:∀o∈ops.toList,∀d,o.dst=some d→N.can d:=fun o ho d hod=>by
   have:=List.all_eq_true.1 hd o ho;rw [hod] at this;exact hcan d this
  have h1:=ZhS (hr id) h;cases draw with
  |false=>
   have:=Zt4 (Q:=Q) hT hdst (K:=K .normal) (fun s a w h hK=>hQ _ _ _ _ h hK) ops.toList 0 (prep (hr id) s) a w rfl h1 hv;rw [Array.length_toList,←List.range_eq_range'] at this;exact wp_region this
  |true=>exact wp_region_any hm (Zsw hT hdst (K:=K .normal) (fun s a w h hK=>hQ _ _ _ _ h hK) (h1.drawn _) hv)
 |seq x y ihx ihy=>
  intro hd Q K s a w hQ h hv;simp only [Zdv,Bool.and_eq_true] at hd;refine wp_seq (ihx hd.1 (fun e s a w h hK=>?_) h hv);cases e with
  |normal=>exact ihy hd.2 hQ h hK
  |_=>exact hQ _ _ _ _ h hK
 |cond c x y ihx ihy=>
  intro hd Q K s a w hQ h hv;simp only [Zdv,Bool.and_eq_true] at hd;simp only [cVC] at hv;obtain ⟨ok,lam,h'⟩:=h;have hc:=h'.ev c;rw [←ZnY] at hc;cases hx:ev s.env c with
  |d z=>
   rw [hx] at hv hc;cases z with
   |bool b=>
    have hb:a.eval c= .bool b:=by generalize a.eval c=y at hc;cases hc.inv_d;rfl
    simp only at hv;cases b with
    |true=>exact wp_cond hb (ihx hd.1 hQ ⟨ok,lam,h'⟩ (hv.1 rfl))
    |false=>exact wp_cond hb (ihy hd.2 hQ ⟨ok,lam,h'⟩ (hv.2 rfl))
   |_=>exact hv.elim
  |_=>rw [hx] at hv;exact hv.elim
 |block id c ih=>
  intro hd Q K s a w hQ h hv;refine wp_block (ih hd (fun e s a w h hK=>?_) h hv);cases e with
  |exit i=>
   simp only [Exit.inBlock] at hK ⊢;by_cases hi:i=id
   ·rw [if_pos hi] at hK ⊢;exact hQ _ _ _ _ h hK
   ·rw [if_neg hi] at hK ⊢;exact hQ _ _ _ _ h hK
  |_=>exact hQ _ _ _ _ h hK
 |loop c ih=>
  intro hd Q K s a w hQ h hv;obtain ⟨α,st,inv,m,⟨x0,hx0,hi0⟩,hround⟩:=hv
  let pp:Act→World→Nat→Prop:=fun a w n=>∃x,inv x∧SRs okIn U w0 N (st x) a w∧m x=n
  have hex:∀a w,(∃n,pp a w n)→∃n,pp a w n∧∀m,pp a w m→n≤m:=fun a w=>least
  classical
  let mu:Act→World→Nat:=fun a w=>if hx:∃n,pp a w n then (hex a w hx).choose else 0
  have hmu:∀a w (hx:∃n,pp a w n),pp a w (mu a w)∧∀m,pp a w m→mu a w≤m:=fun a w hx=>by
   have:mu a w=(hex a w hx).choose:=dif_pos hx;rw [this];exact (hex a w hx).choose_spec
  refine wp_loop (fun a w=>∃n,pp a w n) mu ⟨_,x0,hi0,?_,rfl⟩ fun a w hx=>?_
  ·rw [←hx0];exact (ZhS (hl (Zam c)) h).mono fun _ _=>trivial
  ·obtain ⟨⟨x1,hI1,hs1,hmu1⟩,_⟩:=hmu a w hx;refine ih hd (fun e s2 a2 w2 h2 hK=>?_) hs1 (hround x1 hI1);cases e with
   |normal=>
    obtain ⟨y,hy,hiy,hmy⟩:=hK;have hp:pp a2 w2 (m y):=⟨y,hiy,by rw [←hy];exact (ZhS (hl (Zam c)) h2).mono fun _ _=>trivial,rfl⟩;have h3:=(hmu a2 w2 ⟨_,hp⟩).2 _ hp;exact ⟨⟨_,hp⟩,by omega⟩
   |_=>exact hQ _ _ _ _ h2 hK
 |_=>intro _ Q K s a w hQ h hv;exact hv.elim
end
end Go.Rx
namespace Go.Rx
open Go Go.RowKit
theorem Zo4 {P:Program} {w:World} {ty:Nat} {z cv:Value} (h:(Instr.loadAt ty z).run P w= .ok cv w):(do loadVar ty (←asAddr z)).run P w= .ok cv w:=by
 unfold Instr.loadAt at h;cases z with
 |pointer A=>cases A with
  |some A=>simpa [Instr.sureAddr,asAddr] using h
  |none=>simp [Instr.sureAddr,stuck,Sem.run_bind,Sem.run,Result.andThen] at h
 |_=>simp [Instr.sureAddr,stuck,Sem.run_bind,Sem.run,Result.andThen] at h
theorem Zg7 {P:Program} {T:Tys} (hT:TyOK P T) {okIn U:Nat→Prop} {w0:World} {N:ZiM} {p:Nat→Prop} {s:St} {a:Act} {w:World} {ok:Nat→Prop} {lam:Nat→Option Nat}
  (h:SRo okIn U w0 N p (eget s.env) (uget s.H) a w ok lam) {f:ResultVar→Sem Value} (hf:∀t,f (.tmp t)=pure (a.tmps.getD t undef)) (hc:∀t ty,f (.cell t ty)=do loadVar ty (←asAddr (a.tmps.getD t undef))):
  ∀ {rs:List ResultVar} {K:List V→Prop},resK T s rs K→∃vs cvs,K vs∧(rs.mapM (m:=Sem) f).run P w= .ok cvs w∧Rel2 (VRel w ok lam (uget s.H)) vs cvs
 |[],K,hK=>⟨[],[],hK,rfl,Rel2.nil _⟩
 | .tmp t::rs,K,hK=>by
  obtain ⟨vs,cvs,h1,h2,h3⟩:=Zg7 hT h hf hc (rs:=rs) hK;refine ⟨_,a.tmps.getD t undef::cvs,h1,?_,⟨by simp [h3.1],fun i x y hx hy=>?_⟩⟩
  ·rw [List.mapM_cons,hf];simp [h2]
  ·cases i with
   |zero=>simp only [List.getElem?_cons_zero,Option.some.injEq] at hx hy;subst hx;subst hy;exact h.rel t
   |succ i=>exact h3.2 i x y (by simpa using hx) (by simpa using hy)
 | .cell t ty::rs,K,hK=>by
  obtain ⟨v,u,hl,hr⟩:=Zqo _ hK;obtain ⟨vs,cvs,h1,h2,h3⟩:=Zg7 hT h hf hc (rs:=rs) hr;obtain ⟨cv,hrun,_,hv,_⟩:=Zld (q:=p) hT h.ctx.hok (h.rel t) hl;refine ⟨_,cv::cvs,h1,?_,⟨by simp [h3.1],fun i x y hx hy=>?_⟩⟩
  ·have hl':(f (.cell t ty)).run P w= .ok cv w:=by rw [hc];exact Zo4 hrun
   rw [List.mapM_cons];simp [Sem.run_bind,h2,hl']
  ·cases i with
   |zero=>simp only [List.getElem?_cons_zero,Option.some.injEq] at hx hy;subst hx;subst hy;exact hv
   |succ i=>exact h3.2 i x y (by simpa using hx) (by simpa using hy)
def oneV:List Value→Value
 |[v]=>v
 |vs=> .tuple ⟨vs⟩
theorem Zun {w:World} {ok:Nat→Prop} {lam:Nat→Option Nat} {H:Heap} {vs:List V} {cvs:List Value} (h:Rel2 (VRel w ok lam H) vs cvs):
  VRel w ok lam H (one vs) (oneV cvs):=by
 match vs,cvs,h with
 |[v],[cv],h=>exact h.2 0 _ _ rfl rfl
 |[],[],h=>exact VRel.mkTup h
 |_::_::_,_::_::_,h=>exact VRel.mkTup h
 |[],_::_,h=>have:=h.1;simp at this
 |[_],[],h=>have:=h.1;simp at this
 |[_],_::_::_,h=>have:=h.1;simp at this
 |_::_::_,[],h=>have:=h.1;simp at this
 |_::_::_,[_],h=>have:=h.1;simp at this
theorem Zjq {P:Program} {fn:Func} {tmps:Array Value} {w:World} {cvs:List Value} {f:ResultVar→Sem Value}
  (hf:∀t,f (.tmp t)=pure (tmps.getD t undef)) (hc:∀t ty,f (.cell t ty)=do loadVar ty (←asAddr (tmps.getD t undef)))
  (h:(fn.results.toList.mapM (m:=Sem) f).run P w= .ok cvs w):
  (results fn tmps).run P w= .ok (oneV cvs) w:=by
 unfold results;rw [Array.mapM_eq_mapM_toList];refine Eq.trans (b:=((do let vs ←List.toArray<$>fn.results.toList.mapM (m:=Sem) f;pure (if h:vs.size=1 then vs[0] else .tuple vs)):Sem Value).run P w) ?_ ?_
 ·congr 4;funext r;cases r with
  |tmp t=>rw [hf]
  |cell a t=>rw [hc]
 ·rw [map_eq_pure_bind,Sem.run_bind,Sem.run_bind,h]
  match cvs with
  |[]=>rfl
  |[v]=>rfl
  |_::_::_=>rfl
def Zjj:Nat→List V→List (Nat×V)
 |_,[]=> []
 |i,v::l=>(i,v)::Zjj (i+1) l
theorem Zh3:∀(l:List V) (i t:Nat),eget (Zjj i l) (i+t)=(l[t]?).getD .dead
 |[],i,t=>by simp [Zjj,eget]
 |v::l,i,t=>by
  simp only [Zjj,eget];cases t with
  |zero=>simp
  |succ t=>
   have h:(i==i+(t+1))=false:=by simp
   rw [h,cond_false];have:=Zh3 l (i+1) t;rw [show i+(t+1)=i+1+t by omega,this];simp
def Zjk (args:List V) (H:List (Nat×AObj)):St:=⟨Zjj 0 args,H.map fun p=>(p.1,some p.2)⟩
def retK (rs:List ResultVar) (np:List Bool) (T:Tys) (outs:List V) (res:V) (H':List (Nat×AObj)):Exit→St→Prop
 | .normal,s| .ret,s=>resK T s rs fun vs=>ZqW np s (one vs)=(outs,res,H')
 |_,_=>False
def ZfH (n:Nat) (np:List Bool) (d:Nat):Bool:=Nat.blt d n&& !(np.getD d false)
theorem Zum (env:List (Nat×V)):∀(np:List Bool) (i j:Nat) x,(ZkE env i np)[j]? =some x→(np[j]? =some true∧x=eget env (i+j))∨x= .dead
 |[],i,j,x,h=>by simp [ZkE] at h
 |b::np,i,j,x,h=>by
  simp only [ZkE] at h;cases j with
  |zero=>
   simp at h;subst h;cases b
   ·exact .inr rfl
   ·exact .inl ⟨rfl,rfl⟩
  |succ j=>
   simp at h;rcases Zum env np (i+1) j x h with ⟨h1,h2⟩|h2
   ·exact .inl ⟨by simpa using h1,by rw [h2];congr 1;omega⟩
   ·exact .inr h2
theorem Zzy {P:Program} {T:Tys} (hT:TyOK P T) (hm:P.follows .mixedOrders=true) {f:FuncId} {fn:Func} {c:Code} (hf:P.funcs[f]? =some fn) (hname:(fn.name== "runtime.NumGoroutine")=false) (hb:fn.body=some c)
  {np:List Bool} (hd:Zdv (ZfH fn.ntmps np) c=true) (hr hl:ZW) {args:List V} {H:List (Nat×AObj)} {outs:List V} {res:V} {H':List (Nat×AObj)}
  (hlen:args.length≤fn.ntmps)
  (hv:cVC T P hr hl c (Zjk args H) (retK fn.results.toList np T outs res H')):ZQ P f args H outs res H':=by
 refine ⟨⟨fn,hf,hname,by rw [hb];rfl⟩,fun w vs lam ok hk hal hargs=>?_⟩;refine calls_of_wp hf hb ?_
 let U:Nat→Prop:=fun b=>∃n,hget H n≠none∧lam n=some b
 let a0:Act:= {tmps:=⟨vs⟩++Array.replicate (fn.ntmps - (⟨vs⟩:Array Value).size) undef,defers:=[]}
 let N:ZiM:= {size:=fn.ntmps,pin:=fun t=>np.getD t false,val:=fun t=>a0.tmps.getD t undef}
 have hcan:∀d,ZfH fn.ntmps np d=true→N.can d:=fun d h=>by
  simp only [ZfH,Bool.and_eq_true,Nat.blt_eq,Bool.not_eq_true'] at h;exact h
 have hsz:vs.length≤fn.ntmps:=by omega
 have ha0:∀t,a0.tmps.getD t undef=(vs[t]?).getD undef:=fun t=>by
  show ((⟨vs⟩:Array Value)++Array.replicate (fn.ntmps - vs.length) undef).getD t undef=_;simp only [Array.getD_eq_getD_getElem?];rw [Array.getElem?_append];by_cases ht:t<vs.length
  ·simp [ht]
  ·simp only [List.size_toArray,ht,if_false];rw [List.getElem?_eq_none (by omega),Array.getElem?_replicate];split<;>rfl
 have hE:∀t,eget (Zjk args H).env t=(args[t]?).getD .dead:=fun t=>by
  have:=Zh3 args 0 t
  rwa [Nat.zero_add] at this
 have hH:uget (Zjk args H).H=hget H:=ZlX H;have hs:SRs ok U w N (Zjk args H) a0 w:=by
  refine ⟨ok,lam,?_,fun t=>?_,fun t=>ZaJ.all _,?_,fun t _=>rfl,rfl,Fr.refl _ _⟩
  ·rw [hH];exact ⟨hk,fun n o _=>by cases o with|box c=>exact fun v _=>ZaJ.all v|arr=>trivial,fun _ _=>trivial,fun b hb=> .inl hb,fun n b hn hb=> .inl ⟨n,hn,hb⟩,Nat.le_refl _⟩
  ·rw [hH,hE,ha0];cases hx:args[t]? with
   |none=>exact .dead
   |some x=>
    have ht:t<vs.length:=by have:=(List.getElem?_eq_some_iff.1 hx).1;omega
    have hv:vs[t]? =some vs[t]:=List.getElem?_eq_getElem ht;rw [hv];exact hargs t x _ hx hv
  ·show ((⟨vs⟩:Array Value)++Array.replicate (fn.ntmps - vs.length) undef).size=fn.ntmps;simp;omega
 refine ZlB hT hcan hm hr hl c hd (fun e s a w' h hK=>?_) hs hv;have fin:(resK T s fn.results.toList fun vs=>ZqW np s (one vs)=(outs,res,H'))→a.defers=[]∧∃v,(results fn a.tmps).run P w'= .ok v w'∧∃v' lam' ok',Ending.returned v= .returned v'∧Fr U w w'∧HOK w' ok' lam' (hget H')∧
   VRel w' ok' lam' (hget H') res v'∧(∀(i:Nat) x v,outs[i]? =some x→vs[i]? =some v→VRel w' ok' lam' (hget H') x v)∧
   (∀b,ok' b→ok b∨(∃n,hget H n≠none∧lam n=some b)∨w.heap.size≤b)∧
   (∀n b,hget H' n≠none→lam' n=some b→(∃n',hget H n'≠none∧lam n'=some b)∨w.heap.size≤b):=by
  intro hlv;obtain ⟨ok1,lam1,h⟩:=h;obtain ⟨rvs,cvs,hlv,hrun,hrel⟩:=Zg7 hT h (f:=fun| .tmp t=>pure (a.tmps.getD t undef)| .cell b t=>do loadVar t (←asAddr (a.tmps.getD b undef))) (fun _=>rfl) (fun _ _=>rfl) hlv;simp only [ZqW,Prod.mk.injEq] at hlv;obtain ⟨hl1,hl2,hl3⟩:=hlv;have hnd:=Zjy (uget s.H) (ZkE s.env 0 np++[one rvs]);generalize order (uget s.H) (ZkE s.env 0 np++[one rvs])=o at hl1 hl2 hl3 hnd;have hc:=h.ctx.idx hnd (q:=fun _=>True) (fun _ _=>trivial);have hren:=Zl4 (uget s.H) lam1 o;rw [hl3] at hc hren;refine ⟨h.defers,_,Zjq (f:=fun| .tmp t=>pure (a.tmps.getD t undef)| .cell b t=>do loadVar t (←asAddr (a.tmps.getD b undef))) (fun _=>rfl) (fun _ _=>rfl) hrun,_,_,ok1,rfl,⟨h.fr.os,h.fr.tape,h.fr.output,h.fr.size,fun k hk hn=>h.fr.block k hk (by rintro (h1|h1);exact hn h1;omega),h.fr.sized⟩,hc.hok,?_,fun i x v hx hv=>?_,h.ctx.okb,hc.ownb⟩
  ·rw [←hl2];refine ZiT hren ?_;exact Zun hrel
  ·rw [←hl1,List.getElem?_map] at hx;cases hx':(ZkE s.env 0 np)[i]? with
   |none=>rw [hx'] at hx;simp at hx
   |some y=>
    rw [hx'] at hx;simp at hx;subst hx;rcases Zum s.env np 0 i y hx' with ⟨h1,h2⟩|h2
    ·rw [Nat.zero_add] at h2;subst h2;refine ZiT hren ?_;have hpin:=h.pin i (by show np.getD i false=true;rw [List.getD_eq_getElem?_getD,h1];rfl);have:=h.rel i;rw [hpin] at this;have he:N.val i=v:=by
      show a0.tmps.getD i undef=v;rw [ha0,hv];rfl
     rwa [he] at this
    ·subst h2;exact .dead
 cases e with
 |normal=>exact fin hK
 |ret=>exact fin hK
 |_=>exact hK.elim
end Go.Rx
namespace Go.Rx
open Go Go.RowKit
def Zy9:TypeDesc→TK→Bool
 | .struct fs,.struct l=>fs.toList.map (fun f=>(f.offset,f.type))==l
 | .slice e,.slice e'=>e==e'
 | .int k,.int k'=>decide (k=k')
 | .string,.str=>true
 | .bool,.bool=>true
 | .pointer _,.ptr=>true
 |_,_=>false
def zB:Z→Value→Bool
 | .d (.int k n),.int k' n'=>decide (k=k')&&decide (n=n')
 | .d (.bool b),.bool b'=>b==b'
 | .d (.str []),.string ⟨⟨[]⟩⟩=>true
 | .d .nilp,.pointer none=>true
 | .nils _,.slice none 0 0=>true
 |_,_=>false
def zsB:List Z→List Value→Bool
 |[],[]=>true
 |z::zs,v::vs=>zB z v&&zsB zs vs
 |_,_=>false
def ZtS (P:Program) (t:Nat):TypeDesc→Bool
 | .struct fs=> !P.stoodInHeld t&& !P.eqGuardType P.depth t&&fs.toList.all fun f=>f.name != "_"
 |_=>true
def tyB (P:Program) (t:Nat) (i:TI):Bool:=
 match P.info? t,P.underlying t with
 |some info,some d=>info.size==i.size&&info.bytes==i.bytes&&Zy9 d i.kind&&ZtS P t d&&
   match info.zero with
   |some z=>zsB i.zero z.cells.toList
   |none=>false
 |_,_=>false
theorem Zw2 {d:TypeDesc} {k:TK} (h:Zy9 d k=true):ZcS d k:=by
 cases d<;>cases k<;>simp_all [Zy9,ZcS]
theorem zB_rel {z:Z} {v:Value} (h:zB z v=true):Z.rel z v∧∀y,z= .d y→y.one=true:=by
 unfold zB at h;split at h
 ·simp at h;obtain ⟨rfl,rfl⟩:=h;exact ⟨fun w ok=> .int _ _,fun y hy=>by cases hy;rfl⟩
 ·simp at h;subst h;exact ⟨fun w ok=> .bool _,fun y hy=>by cases hy;rfl⟩
 ·exact ⟨fun w ok=> .str [] (by simp [LEN]),fun y hy=>by cases hy;rfl⟩
 ·exact ⟨fun w ok=> .nilp,fun y hy=>by cases hy;rfl⟩
 ·exact ⟨rfl,fun y hy=>by cases hy⟩
 ·cases h
theorem Ztt:∀ {zs:List Z} {vs:List Value},zsB zs vs=true→Rel2 Z.rel zs vs∧∀x∈zs,∀y,x= .d y→y.one=true
 |[],[],_=>⟨Rel2.nil _,fun x hx=>by cases hx⟩
 |z::zs,v::vs,h=>by
  simp only [zsB,Bool.and_eq_true] at h;obtain ⟨h1,h2⟩:=zB_rel h.1;obtain ⟨h3,h4⟩:=Ztt h.2;refine ⟨⟨by simp [h3.1],fun i x y hx hy=>?_⟩,fun x hx=>?_⟩
  ·cases i with
   |zero=>simp at hx hy;subst hx;subst hy;exact h1
   |succ i=>exact h3.2 i x y (by simpa using hx) (by simpa using hy)
  ·rcases List.mem_cons.1 hx with rfl|hx
   ·exact h2
   ·exact h4 x hx
 |[],_::_,h=>by cases h
 |_::_,[],h=>by cases h
theorem tyB_at {P:Program} {t:Nat} {i:TI} (h:tyB P t i=true):∃info d z,TyAt P t i info d z:=by
 unfold tyB at h;split at h
 ·rename_i info d hi hu;simp only [Bool.and_eq_true,beq_iff_eq] at h;obtain ⟨⟨⟨⟨h1,h2⟩,h3⟩,h4⟩,h5⟩:=h;split at h5
  ·rename_i z hz;obtain ⟨h6,h7⟩:=Ztt h5;refine ⟨info,d,z,hi,h1,h2,hu,Zw2 h3,hz,h6,h7,fun fs hfs=>?_⟩;subst hfs;simp only [ZtS,Bool.and_eq_true,Bool.not_eq_true'] at h4;refine ⟨h4.1.1,h4.1.2,fun f hf=>?_⟩;have:=List.all_eq_true.1 h4.2 f hf;simpa using this
  ·cases h5
 ·cases h
theorem ZyA {P:Program} {T:Tys} (h:∀t i,T t=some i→tyB P t i=true):TyOK P T:=fun t i ht=>tyB_at (h t i ht)
end Go.Rx
