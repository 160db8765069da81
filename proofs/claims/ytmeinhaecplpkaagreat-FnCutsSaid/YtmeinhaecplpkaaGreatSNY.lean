/-
  Part NY: lemmas on an evaluator over plain data of the model's code, plain laws on lists and numbers, or contracts of functions of the program; each lemma names its conditions.
-/
import Derived.Test.YtmeinhaecplpkaaGreatSA1
import Derived.Test.YtmeinhaecplpkaaGreatSA5
import Derived.Test.YtmeinhaecplpkaaGreatSB1
import Derived.Test.YtmeinhaecplpkaaGreatSC2
import Derived.Test.YtmeinhaecplpkaaGreatSC3
import Derived.Test.YtmeinhaecplpkaaGreatSC5
import Derived.Test.YtmeinhaecplpkaaGreatSE1
import Derived.Test.YtmeinhaecplpkaaGreatSE2
import Derived.Test.YtmeinhaecplpkaaGreatSE4
import Derived.Test.YtmeinhaecplpkaaGreatSE5
import Derived.Test.YtmeinhaecplpkaaGreatSE6
import Derived.Test.YtmeinhaecplpkaaGreatSKI
import Derived.Test.YtmeinhaecplpkaaGreatSN2
import Derived.Test.YtmeinhaecplpkaaGreatSN7
import Derived.Test.YtmeinhaecplpkaaGreatSN9
import Derived.Test.YtmeinhaecplpkaaGreatSP1
import Derived.Test.YtmeinhaecplpkaaGreatSP2
import Derived.Test.YtmeinhaecplpkaaGreatSP3
import Derived.Test.YtmeinhaecplpkaaGreatSP4
import Derived.Test.YtmeinhaecplpkaaGreatSP5
import Derived.Test.YtmeinhaecplpkaaGreatSR0

set_option linter.unusedSimpArgs false
set_option linter.unusedVariables false
set_option maxRecDepth 100000
set_option maxHeartbeats 16000000
set_option linter.defProp false
namespace Go.Rx
open Go
theorem shr64 {a:Nat} {k:Nat} (hk:k≤64):bShr .i64 (a:Int) (k:Int)=((a / 2 ^ k:Nat):Int):=by
 show (a:Int).fdiv (2 ^ min ((k:Int).toNat) 64)=_
 rw [Int.toNat_natCast,Nat.min_eq_left hk,Int.fdiv_eq_ediv_of_nonneg _ (by exact_mod_cast Nat.zero_le _)]
 norm_cast
theorem or128 {n:Nat} (h:n<128):n|||128=n+128:=by
 have:=Nat.shiftLeft_add_eq_or_of_lt (i:=7) (b:=n) h 1
 rw [Nat.or_comm];simp at this;omega
end Go.Rx
namespace Go.Rx
end Go.Rx
namespace Go.Rx
end Go.Rx
namespace Go.Rx
end Go.Rx
namespace Go.Rx
end Go.Rx
namespace Go.Rx
end Go.Rx
namespace Go.Rx
end Go.Rx
namespace Go.Rx
end Go.Rx
namespace Go.Rx
open Go
attribute [local irreducible] Req Way WayG Sel Z2 ZQ Zaz cVC Zai ZaO
theorem ZCW (n:Nat) (hn:n<9223372036854775808):ZQ Go.Proofs.Tryz.prog 163 [.d (.int .i64 n)] [] [.dead] (.d (.str (varB n))) []:=by
 refine cof Go.Proofs.Tryz.func163 hr163 hl163 [false] ?_
 simp -implicitDefEqProofs only [go_sem]
 refine ZY (α:=List UInt8×Nat) (fun x=>⟨[(0,.d (.int .i64 x.2)),(3,.own 0 0 x.1.length)],[(0,some (.arr 1 (bys x.1)))]⟩)
  (fun x=>x.1++varB x.2=varB n∧x.2<9223372036854775808) (fun x=>x.2) ([],n) rfl ⟨rfl,hn⟩ ?_
 rintro ⟨out,m⟩ ⟨h1,h2⟩
 simp only at h1 h2
 have hl:out.length≤9:=by have:=ZdR hn;rw [←h1,List.length_append] at this;omega
 simp -implicitDefEqProofs only [go_sem]
 refine Zfi (fun h3=>?_) (fun h3=>?_)
 ·have e1:=and64 (a:=m) (b:=127) h2 (by omega)
  rw [and127] at e1
  have e2:=or64 (a:=m%128) (b:=128) (by omega) (by omega)
  rw [or128 (by omega)] at e2
  have e3:=shr64 (a:=m) (k:=7) (by omega)
  simp only [Int.cast_ofNat_Int] at e1 e2 e3
  simp -implicitDefEqProofs only [go_sem,e1,e2,e3,Zea]
  repeat ((first|refine rq ?_|fail);simp -implicitDefEqProofs only [go_sem,e1,e2,e3,Zea])
  refine ZP (out++[UInt8.ofNat (m%128+128)],m / 128) (by simp) ⟨?_,?_⟩ ?_
  ·simp only;rw [ZtF (by omega)];exact h1
  ·simp only;omega
  ·simp only;omega
 ·simp -implicitDefEqProofs only [go_sem,Zea]
  repeat ((first|refine req rfl ?_|refine rq ?_|fail);simp -implicitDefEqProofs only [go_sem,Zea,Zrn,Zp0])
  rw [ZcU (by omega)] at h1
  rw [h1]
def ZCU (n:Nat) (hn:n<9223372036854775808):=kf (ZCW n hn)
end Go.Rx
namespace Go.Rx
open Go
attribute [local irreducible] Req Way WayG Sel Z2 ZQ Zaz cVC Zai ZaO
theorem ZDa (l:List GPut) (f:Nat) (cs:List D) (g:GPut→Bool) (hl:l.length≤LEN) (hf:∀p∈l,ZQ Go.Proofs.Tryz.prog f (.d (.agg [.int .i64 p.Zu,.str p.ZC])::cs.map .d) [] (.dead::cs.map fun _=> .dead) (.d (.bool (g p))) []):ZQ Go.Proofs.Tryz.prog 211 [.d (.sl (Zae l)),.d (.clo f cs)] [] [.dead,.dead] (.d (.int .i64 (idxF g l))) []:=by
 refine cof Go.Proofs.Tryz.func211 hr211 hl211 [false,false] ?_
 simp -implicitDefEqProofs only [go_sem]
 refine ZY (α:=Nat) (fun i=>⟨[(0,.d (.sl (Zae l))),(1,.d (.clo f cs)),(7,.d (.int .i64 l.length)),(8,.d (.int .i64 i))],[]⟩)
  (fun i=>i≤l.length∧∀q∈l.take i,g q=false) (fun i=>l.length - i) 0 rfl ⟨Nat.zero_le _,by simp⟩ ?_
 rintro i ⟨h2,h3⟩
 simp -implicitDefEqProofs only [go_sem]
 refine fork (fun h5=>?_) (fun h5=>?_)
 ·obtain ⟨p,hp⟩:=Z3 h5
  have hmem:=List.mem_of_getElem? hp
  simp -implicitDefEqProofs only [go_sem,ZaY hp]
  repeat ((first|refine rq ?_|refine ZcM (xs:=(.agg [.int .i64 p.Zu,.str p.ZC])::cs) ZAf (hf p hmem) rfl (.inr ⟨Ze9 rfl,Zd6⟩) ?_|fail);simp -implicitDefEqProofs only [go_sem,ZaY hp,ZbD.eq_1])
  cases hg:g p
  ·simp -implicitDefEqProofs only [go_sem]
   rw [ZV (by omega)]
   refine ZP (i+1) rfl ⟨by omega,fun q hq=>?_⟩ (by omega)
   rw [Z7 hp] at hq
   rcases List.mem_append.1 hq with hq|hq
   ·exact h3 q hq
   ·simp at hq;subst hq;exact hg
  ·simp -implicitDefEqProofs only [go_sem]
   rw [Zu6 hp h3 hg]
 ·simp -implicitDefEqProofs only [go_sem]
  rw [List.take_of_length_le (by omega)] at h3
  rw [Zu7 h3]
def ZC8 (l:List GPut) (f:Nat) (cs:List D) (g:GPut→Bool) (hl:l.length≤LEN) (hf:∀p∈l,ZQ Go.Proofs.Tryz.prog f (.d (.agg [.int .i64 p.Zu,.str p.ZC])::cs.map .d) [] (.dead::cs.map fun _=> .dead) (.d (.bool (g p))) []):=kf (ZDa l f cs g hl hf)
theorem ZDb (l:List GPut) (f:Nat) (cs:List D) (g:GPut→Bool) (hl:l.length≤LEN) (hf:∀p∈l,ZQ Go.Proofs.Tryz.prog f (.d (.agg [.int .i64 p.Zu,.str p.ZC])::cs.map .d) [] (.dead::cs.map fun _=> .dead) (.d (.bool (g p))) []):ZQ Go.Proofs.Tryz.prog 168 [.d (.sl (Zae l)),.d (.clo f cs)] [] [.dead,.dead] (.d (.bool (l.any g))) []:=by
 refine cof Go.Proofs.Tryz.func168 hr168 hl168 [false,false] ?_
 simp -implicitDefEqProofs only [go_sem]
 refine ZC8 l f cs g hl hf rfl ?_
 simp -implicitDefEqProofs only [go_sem]
 rw [Zw7]
def ZC9 (l:List GPut) (f:Nat) (cs:List D) (g:GPut→Bool) (hl:l.length≤LEN) (hf:∀p∈l,ZQ Go.Proofs.Tryz.prog f (.d (.agg [.int .i64 p.Zu,.str p.ZC])::cs.map .d) [] (.dead::cs.map fun _=> .dead) (.d (.bool (g p))) []):=kf (ZDb l f cs g hl hf)
theorem ZC2 (s:List UInt8):ZQ Go.Proofs.Tryz.prog 167 [.d (.str s)] [] [.dead] (.d (.bool (decide ((240:Int)<s.length)))) []:=by
 refine cof Go.Proofs.Tryz.func167 hr167 hl167 [false] ?_
 simp -implicitDefEqProofs only [go_sem]
theorem ZC7 (p:GPut) (d:ZT) (hd:d.Zv.length≤1048576):ZQ Go.Proofs.Tryz.prog 169 [.d (.agg [.int .i64 p.Zu,.str p.ZC]),.d (.ptr [.sl (strs d.Zv),.sl (Zae d.Zm)])] [] [.dead,.dead] (.d (.bool ((!decide (Za9 d p.Zu)).or (decide ((240:Int)<p.ZC.length))))) []:=by
 refine cof Go.Proofs.Tryz.func169 hr169 hl169 [false,false] ?_
 simp -implicitDefEqProofs only [go_sem]
 refine ZAU d p.Zu (by omega) rfl ?_
 by_cases h:Za9 d p.Zu
 ·have dh:=decide_eq_true h
  simp -implicitDefEqProofs only [go_sem,dh]
  repeat ((first|refine rq ?_|fail);simp -implicitDefEqProofs only [go_sem,dh])
 ·have dh:=decide_eq_false h
  simp -implicitDefEqProofs only [go_sem,dh]
  repeat ((first|refine rq ?_|fail);simp -implicitDefEqProofs only [go_sem,dh])
theorem ZDc (d:ZT) (hd:Zck d):ZQ Go.Proofs.Tryz.prog 97 [.d (.agg d.cells)] [] [.dead] (.d (.bool (decide (Za5 d)))) []:=by
 refine cof Go.Proofs.Tryz.func97 hr97 hl97 [false] ?_
 obtain ⟨h1,h2⟩:=hd
 simp -implicitDefEqProofs only [go_sem,ZT.cells]
 by_cases g1:(4:Int)≤d.Zv.length∧(d.Zv.length:Int)≤40
 ·have d1:=decide_eq_true g1
  by_cases g2:(200:Int)<d.Zm.length
  ·have d2:=decide_eq_true g2
   repeat ((first|refine ZAc _ _ _ rfl ?_|refine rq ?_|fail);simp -implicitDefEqProofs only [go_sem,d1,d2])
   have:¬Za5 d:=fun h=>by have:=h.2.2.1;omega
   simp [this]
  ·have d2:=decide_eq_false g2
   cases g3:d.Zv.any fun s=>decide ((240:Int)<s.length)
   ·repeat ((first|refine ZAc _ _ _ rfl ?_|refine ZAW d.Zv 167 [] (fun s=>decide ((240:Int)<s.length)) (by simp only [LEN];omega) (fun p hp=>ZC2 p) rfl ?_|refine ZC9 d.Zm 169 [.ptr [.sl (strs d.Zv),.sl (Zae d.Zm)]] (fun p=>(!decide (Za9 d p.Zu)).or (decide ((240:Int)<p.ZC.length))) (by simp only [LEN];omega) (fun p hp=>ZC7 p d h1) rfl ?_|refine rq ?_|fail);simp -implicitDefEqProofs only [go_sem,d1,d2,g3])
    have g3':∀s∈d.Zv,s.length≤240:=fun s hs=>by
     have:=List.any_eq_false.1 g3 s hs
     simp at this;omega
    have:(!d.Zm.any fun p=>(!decide (Za9 d p.Zu)).or (decide ((240:Int)<p.ZC.length)))=decide (Za5 d):=by
     rw [Bool.eq_iff_iff,Bool.not_eq_true',List.any_eq_false,decide_eq_true_eq]
     constructor
     ·intro h
      refine ⟨by omega,by omega,by omega,g3',fun p hp=>?_⟩
      have:=h p hp
      simp at this
      exact ⟨this.1,by omega⟩
     ·intro h p hp
      obtain ⟨q1,q2⟩:=h.2.2.2.2 p hp
      simp [q1];omega
    rw [this]
   ·repeat ((first|refine ZAc _ _ _ rfl ?_|refine ZAW d.Zv 167 [] (fun s=>decide ((240:Int)<s.length)) (by simp only [LEN];omega) (fun p hp=>ZC2 p) rfl ?_|refine rq ?_|fail);simp -implicitDefEqProofs only [go_sem,d1,d2,g3])
    have:¬Za5 d:=fun h=>by
     obtain ⟨s,hs,hb⟩:=List.any_eq_true.1 g3
     have:=h.2.2.2.1 s hs
     simp at hb;omega
    simp [this]
 ·have d1:=decide_eq_false g1
  repeat ((first|refine ZAc _ _ _ rfl ?_|refine rq ?_|fail);simp -implicitDefEqProofs only [go_sem,d1])
  have:¬Za5 d:=fun h=>g1 ⟨by have:=h.1;omega,by have:=h.2.1;omega⟩
  simp [this]
def ZC4 (d:ZT) (hd:Zck d):=kf (ZDc d hd)
theorem ZC5 (d:ZT) (p:Int) (t:List UInt8) (hd:Zck d):ZQ Go.Proofs.Tryz.prog 114 [.d (.agg d.cells),.d (.int .i64 p),.d (.str t)] [] [.dead,.dead,.dead] (.tup [.agg [.own 0 0 d.Zv.length,.own 1 0 (wrO d p t).length],.d (.bool (Zak d p t).isSome)]) [(0,.arr 1 (strs d.Zv)),(1,.arr 2 (Zae (wrO d p t)))]:=by
 refine cof Go.Proofs.Tryz.func114 hr114 hl114 [false,false,false] ?_
 have hd':=hd
 obtain ⟨h1,h2⟩:=hd'
 simp -implicitDefEqProofs only [go_sem,ZT.cells]
 refine ZBc d hd rfl ?_
 simp -implicitDefEqProofs only [go_sem]
 refine ZC4 d hd rfl ?_
 by_cases g1:Za5 d
 ·have d1:=decide_eq_true g1
  by_cases g2:Za9 d p
  ·have d2:=decide_eq_true g2
   by_cases g3:(240:Int)<t.length
   ·have d3:=decide_eq_true g3
    have hw:Zak d p t=none:=by rw [Zak,if_neg (fun h=>by have:=h.2.2.1;omega)]
    simp only [wrO,hw]
    simp -implicitDefEqProofs only [go_sem,d1]
    repeat ((first|refine rq ?_|refine ZAU d p (by omega) rfl ?_|fail);simp -implicitDefEqProofs only [go_sem,d1,d2,d3])
    rfl
   ·have d3:=decide_eq_false g3
    by_cases g4:(200:Int)≤d.Zm.length
    ·have d4:=decide_eq_true g4
     have hw:Zak d p t=none:=by rw [Zak,if_neg (fun h=>by have:=h.2.2.2;omega)]
     simp only [wrO,hw]
     simp -implicitDefEqProofs only [go_sem,d1]
     repeat ((first|refine rq ?_|refine ZAU d p (by omega) rfl ?_|fail);simp -implicitDefEqProofs only [go_sem,d1,d2,d3,d4])
     rfl
    ·have d4:=decide_eq_false g4
     have hw:Zak d p t=some {d with Zm:=d.Zm++[⟨p,t⟩]}:=by rw [Zak,if_pos ⟨g1,g2,by omega,by omega⟩]
     simp only [wrO,hw]
     simp -implicitDefEqProofs only [go_sem,d1]
     repeat ((first|refine rq ?_|refine ZAU d p (by omega) rfl ?_|fail);simp -implicitDefEqProofs only [go_sem,d1,d2,d3,d4])
     simp
  ·have d2:=decide_eq_false g2
   have hw:Zak d p t=none:=by rw [Zak,if_neg (fun h=>g2 h.2.1)]
   simp only [wrO,hw]
   simp -implicitDefEqProofs only [go_sem,d1]
   repeat ((first|refine rq ?_|refine ZAU d p (by omega) rfl ?_|fail);simp -implicitDefEqProofs only [go_sem,d1,d2])
   rfl
 ·have d1:=decide_eq_false g1
  have hw:Zak d p t=none:=by rw [Zak,if_neg (fun h=>g1 h.1)]
  simp only [wrO,hw]
  simp -implicitDefEqProofs only [go_sem,d1]
  repeat ((first|refine rq ?_|fail);simp -implicitDefEqProofs only [go_sem,d1])
  rfl
def ZC3 (d:ZT) (p:Int) (t:List UInt8) (hd:Zck d):=kf (ZC5 d p t hd)
end Go.Rx
namespace Go.Rx
open Go
attribute [local irreducible] Req Way WayG Sel Z2 ZQ Zaz cVC Zai ZaO
def delS {α:Type} (g:α→Bool) (l:List α):Nat→Nat×List α
 |0=>(0,l)
 |j+1=>match l[j]? with
  |some v=>if g v=true then delS g l j else ((delS g l j).1+1,(delS g l j).2.set (delS g l j).1 v)
  |none=>delS g l j
structure DelOK {α:Type} (g:α→Bool) (l:List α) (j:Nat) (i:Nat) (A:List α):Prop where
 le:i≤j
 len:A.length=l.length
 pre:A.take i=(l.take j).filter fun x=> !g x
 rest:∀k,j≤k→A[k]? =l[k]?
theorem ZCB {α:Type} {g:α→Bool} {l:List α}:∀ {j:Nat},j≤l.length→DelOK g l j (delS g l j).1 (delS g l j).2
 |0,_=>⟨Nat.le_refl _,rfl,by simp [delS],fun _ _=>rfl⟩
 |j+1,h=>by
  have ih:=ZCB (g:=g) (l:=l) (j:=j) (by omega)
  obtain ⟨v,hv⟩:∃v,l[j]? =some v:=⟨_,List.getElem?_eq_getElem (by omega)⟩
  rw [delS,hv]
  simp only
  cases hg:g v
  ·rw [if_neg (by simp)]
   have h1:=ih.le
   have h2:=ih.len
   refine ⟨by simp only;omega,by simp only [List.length_set];omega,?_,fun k hk=>?_⟩
   ·simp only
    have:((delS g l j).2.set (delS g l j).1 v)[(delS g l j).1]? =some v:=List.getElem?_set_self (by omega)
    rw [Z7 this,List.take_set_of_le (Nat.le_refl _),ih.pre,Z7 hv,List.filter_append]
    simp [hg]
   ·simp only
    rw [List.getElem?_set_ne (by omega)]
    exact ih.rest k (by omega)
  ·rw [if_pos rfl]
   exact ⟨by have:=ih.le;omega,ih.len,by rw [ih.pre,Z7 hv,List.filter_append];simp [hg],fun k hk=>ih.rest k (by omega)⟩
theorem ZCx {α:Type} {g:α→Bool} {l:List α} {j:Nat} {v:α} (hv:l[j]? =some v):delS g l (j+1)=if g v=true then delS g l j else ((delS g l j).1+1,(delS g l j).2.set (delS g l j).1 v):=by
 rw [delS,hv]
theorem ZCy {α:Type} {g:α→Bool} {l:List α}:∀ {j:Nat},(∀k x,k<j→l[k]? =some x→g x=false)→j≤l.length→delS g l j=(j,l)
 |0,_,_=>rfl
 |j+1,h,hj=>by
  obtain ⟨v,hv⟩:∃v,l[j]? =some v:=⟨_,List.getElem?_eq_getElem (by omega)⟩
  rw [ZCx hv,ZCy (fun k x hk=>h k x (by omega)) (by omega),if_neg (by rw [h j v (by omega) hv];simp)]
  simp only
  congr 1
  exact List.ext_getElem? fun k=>by
   by_cases hk:k=j
   ·subst hk;rw [List.getElem?_set_self (by omega),hv]
   ·rw [List.getElem?_set_ne (Ne.symm hk)]
theorem ZCC {α:Type} {g:α→Bool} {l:List α}:(idxF g l= -1∧∀x∈l,g x=false)∨∃k x,idxF g l=((k:Nat):Int)∧l[k]? =some x∧g x=true∧∀m y,m<k→l[m]? =some y→g y=false:=by
 unfold idxF
 cases h:l.findIdx? g with
 |none=>exact .inl ⟨rfl,List.findIdx?_eq_none_iff.1 h⟩
 |some k=>
  obtain ⟨h1,h2,h3⟩:=List.findIdx?_eq_some_iff_getElem.1 h
  refine .inr ⟨k,l[k],rfl,List.getElem?_eq_getElem h1,h2,fun m y hm hy=>?_⟩
  obtain ⟨e1,e2⟩:=List.getElem?_eq_some_iff.1 hy
  have:=h3 m hm
  rw [e2] at this
  simpa using this
theorem ZCz {α:Type} {c:α→List D} {A:List α} {i n:Nat} {z:α} (h:A.length=n) (hi:i≤n):Zez (A.map c) i (n - i) (c z)=(A.take i++List.replicate (n - i) z).map c:=by
 unfold Zez
 rw [List.drop_eq_nil_of_le (by rw [List.length_map];omega),List.append_nil,List.map_append,List.map_take,List.map_replicate]
@[go_sem] def hr159:ZW:=hh [[0,1],[0,1],[0,1,7,8],[0,1,7,8],[0,1,5,7,8],[5],[0,1,7,8],[]]
@[go_sem] def hl159:ZW:=hh [[],[],[0,1,7,8]]
attribute [go_sem] Go.Proofs.Tryz.results159
theorem ZCD (l:List Int) (f:Nat) (cs:List D) (g:Int→Bool) (hl:l.length≤LEN) (hf:∀p∈l,ZQ Go.Proofs.Tryz.prog f (.d (.int .i64 p)::cs.map .d) [] (.dead::cs.map fun _=> .dead) (.d (.bool (g p))) []):ZQ Go.Proofs.Tryz.prog 159 [.d (.sl (ints l)),.d (.clo f cs)] [] [.dead,.dead] (.d (.int .i64 (idxF g l))) []:=by
 refine cof Go.Proofs.Tryz.func159 hr159 hl159 [false,false] ?_
 simp -implicitDefEqProofs only [go_sem]
 refine ZY (α:=Nat) (fun i=>⟨[(0,.d (.sl (ints l))),(1,.d (.clo f cs)),(7,.d (.int .i64 l.length)),(8,.d (.int .i64 i))],[]⟩)
  (fun i=>i≤l.length∧∀q∈l.take i,g q=false) (fun i=>l.length - i) 0 rfl ⟨Nat.zero_le _,by simp⟩ ?_
 rintro i ⟨h2,h3⟩
 simp -implicitDefEqProofs only [go_sem]
 refine fork (fun h5=>?_) (fun h5=>?_)
 ·obtain ⟨p,hp⟩:=Z3 h5
  have hmem:=List.mem_of_getElem? hp
  simp -implicitDefEqProofs only [go_sem,ZO hp]
  repeat ((first|refine rq ?_|refine ZcM (xs:=(.int .i64 p)::cs) ZAf (hf p hmem) rfl (.inr ⟨Ze9 rfl,Zd6⟩) ?_|fail);simp -implicitDefEqProofs only [go_sem,ZO hp,ZbD.eq_1])
  cases hg:g p
  ·simp -implicitDefEqProofs only [go_sem]
   rw [ZV (by omega)]
   refine ZP (i+1) rfl ⟨by omega,fun q hq=>?_⟩ (by omega)
   rw [Z7 hp] at hq
   rcases List.mem_append.1 hq with hq|hq
   ·exact h3 q hq
   ·simp at hq;subst hq;exact hg
  ·simp -implicitDefEqProofs only [go_sem]
   rw [Zu6 hp h3 hg]
 ·simp -implicitDefEqProofs only [go_sem]
  rw [List.take_of_length_le (by omega)] at h3
  rw [Zu7 h3]
def ZCA (l:List Int) (f:Nat) (cs:List D) (g:Int→Bool) (hl:l.length≤LEN) (hf:∀p∈l,ZQ Go.Proofs.Tryz.prog f (.d (.int .i64 p)::cs.map .d) [] (.dead::cs.map fun _=> .dead) (.d (.bool (g p))) []):=kf (ZCD l f cs g hl hf)
@[go_sem] def hr90:ZW:=hh [[0,1],[0,1]]
@[go_sem] def hl90:ZW:=hh []
attribute [go_sem] Go.Proofs.Tryz.results90
theorem ZCE (l:List Int) (f:Nat) (cs:List D) (g:Int→Bool) (hl:l.length≤LEN) (hf:∀p∈l,ZQ Go.Proofs.Tryz.prog f (.d (.int .i64 p)::cs.map .d) [] (.dead::cs.map fun _=> .dead) (.d (.bool (g p))) []):ZQ Go.Proofs.Tryz.prog 90 [.d (.sl (ints l)),.d (.clo f cs)] [] [.dead,.dead] (.d (.bool (l.any g))) []:=by
 refine cof Go.Proofs.Tryz.func90 hr90 hl90 [false,false] ?_
 simp -implicitDefEqProofs only [go_sem]
 refine ZCA l f cs g hl hf rfl ?_
 simp -implicitDefEqProofs only [go_sem]
 rw [Zw7]
def ki_conInt (l:List Int) (f:Nat) (cs:List D) (g:Int→Bool) (hl:l.length≤LEN) (hf:∀p∈l,ZQ Go.Proofs.Tryz.prog f (.d (.int .i64 p)::cs.map .d) [] (.dead::cs.map fun _=> .dead) (.d (.bool (g p))) []):=kf (ZCE l f cs g hl hf)
@[go_sem] def hr135:ZW:=hh [[0,1],[0,1],[0,1,5],[0],[0,1,5],[0,1,5,6],[0,1,5,6],[0,1,5,6],[0,1,5,6,7],[0,1,5,6,7],[0,1,5,6],[0,5],[0,5]]
@[go_sem] def hl135:ZW:=hh [[],[],[],[],[],[0,1,5,6]]
attribute [go_sem] Go.Proofs.Tryz.results135
theorem ZDs (l:List Int) (f:Nat) (cs:List D) (g:Int→Bool) (hl:l.length≤1048576) (hf:∀p∈l,ZQ Go.Proofs.Tryz.prog f (.d (.int .i64 p)::cs.map .d) [] (.dead::cs.map fun _=> .dead) (.d (.bool (g p))) []):
  ZQ Go.Proofs.Tryz.prog 135 [.own 0 0 l.length,.d (.clo f cs)] [(0,.arr 1 (ints l))] [.own 0 0 l.length,.dead] (.own 0 0 (l.filter fun x=> !g x).length) [(0,.arr 1 (ints ((l.filter fun x=> !g x)++List.replicate (l.length - (l.filter fun x=> !g x).length) (0:Int))))]:=by
 refine cof Go.Proofs.Tryz.func135 hr135 hl135 [true,false] ?_
 simp -implicitDefEqProofs only [go_sem]
 refine ZCA l f cs g (by simp only [LEN];omega) hf (by simp -implicitDefEqProofs only [go_sem,Zby];first|done|rfl) ?_
 simp -implicitDefEqProofs only [go_sem]
 rcases ZCC (g:=g) (l:=l) with ⟨h1,h2⟩|⟨k,x,h1,h2,h3,h4⟩
 ·have hfl:(l.filter fun x=> !g x)=l:=List.filter_eq_self.2 fun x hx=>by rw [h2 x hx];rfl
  have d1:decide ((-1:Int)= -1)=true:=rfl
  rw [h1,hfl]
  simp -implicitDefEqProofs only [go_sem,d1]
  repeat ((first|refine rq ?_|refine wl ?_|refine gl ?_|fail);simp -implicitDefEqProofs only [go_sem,d1])
  rw [Nat.sub_self]
  simp
 ·have d1:decide ((k:Int)= -1)=false:=decide_eq_false (by omega)
  have hkl:=(List.getElem?_eq_some_iff.1 h2).1
  have e1:IntKind.i64.wrap ((k:Int)+1)=((k+1:Nat):Int):=ZV (by simp only [LEN];omega)
  have hinit:delS g l (k+1)=(k,l):=by rw [ZCx h2,ZCy (fun m y hm hy=>h4 m y hm hy) (by omega),if_pos h3]
  rw [h1]
  simp -implicitDefEqProofs only [go_sem,d1,e1]
  repeat ((first|refine rq ?_|refine wl ?_|refine gl ?_|fail);simp -implicitDefEqProofs only [go_sem,d1,e1])
  refine ZY (α:=Nat) (fun j=>⟨[(0,.own 0 0 l.length),(1,.d (.clo f cs)),(5,.d (.int .i64 (delS g l j).1)),(6,.d (.int .i64 j))],[(0,some (.arr 1 (ints (delS g l j).2)))]⟩)
   (fun j=>k+1≤j∧j≤l.length) (fun j=>l.length - j) (k+1) (by rw [hinit]) ⟨Nat.le_refl _,by omega⟩ ?_
  rintro j ⟨j1,j2⟩
  have ok:=ZCB (g:=g) j2
  have oi:=ok.le
  have ol:=ok.len
  have op:=ok.pre
  simp -implicitDefEqProofs only [go_sem]
  refine fork (fun h5=>?_) (fun h5=>?_)
  ·obtain ⟨v,hv⟩:=Z3 h5
   have hA:=(ok.rest j (Nat.le_refl _)).trans hv
   have hst:=ZCx (g:=g) hv
   have hmem:=List.mem_of_getElem? hv
   have e2:IntKind.i64.wrap ((j:Int)+1)=((j+1:Nat):Int):=ZV (by simp only [LEN];omega)
   have e3:IntKind.i64.wrap (((delS g l j).1:Int)+1)=(((delS g l j).1+1:Nat):Int):=ZV (by simp only [LEN];omega)
   generalize hi:(delS g l j).1=i at hst oi e3 ⊢
   generalize hA2:(delS g l j).2=A at hst ol hA ⊢
   obtain ⟨y,hy⟩:∃y,A[i]? =some y:=⟨_,List.getElem?_eq_getElem (by omega)⟩
   cases hg:g v
   ·rw [hg,if_neg (by simp)] at hst
    simp -implicitDefEqProofs only [go_sem,ZO hA,hg]
    repeat ((first|refine rq ?_|refine ZcM (xs:=(.int .i64 v)::cs) ZAf (hf v hmem) rfl (.inr ⟨Ze9 rfl,Zd6⟩) ?_|fail);simp -implicitDefEqProofs only [go_sem,ZO hA,ZO hy,hg,ol,ZbD.eq_1,List.drop_succ_cons,List.drop_zero,List.drop_nil])
    rw [e2,e3]
    exact ZP (j+1) (by rw [hst]) ⟨by omega,by omega⟩ (by omega)
   ·rw [hg,if_pos rfl] at hst
    simp -implicitDefEqProofs only [go_sem,ZO hA,hg]
    repeat ((first|refine rq ?_|refine ZcM (xs:=(.int .i64 v)::cs) ZAf (hf v hmem) rfl (.inr ⟨Ze9 rfl,Zd6⟩) ?_|fail);simp -implicitDefEqProofs only [go_sem,ZO hA,hg,ol,ZbD.eq_1])
    rw [e2]
    exact ZP (j+1) (by rw [hst,hi,hA2]) ⟨by omega,by omega⟩ (by omega)
  ·obtain rfl:j=l.length:=by omega
   rw [List.take_length] at op
   have hlen:(delS g l l.length).1=(l.filter fun x=> !g x).length:=by rw [←op,List.length_take];omega
   simp -implicitDefEqProofs only [go_sem]
   repeat ((first|refine rq ?_|refine wl ?_|refine gl ?_|fail);simp -implicitDefEqProofs only [go_sem])
   rw [hlen] at op ⊢
   have hz:=ZCz (c:=(fun n=> [.int .i64 n])) (A:=(delS g l l.length).2) (i:=(l.filter fun x=> !g x).length) (n:=l.length) (z:=(0:Int)) ol (by omega)
   rw [op] at hz
   exact congrArg (fun y=>([V.own 0 0 l.length,V.dead],V.own 0 0 (l.filter fun x=> !g x).length,[(0,AObj.arr 1 y)])) hz
end Go.Rx
namespace Go.Rx
open Go
theorem ZCL {α:Type} {g:α→Bool} {l:List α} {z:α}:(l.filter g++List.replicate (l.length - (l.filter g).length) z).length=l.length:=by
 have:=List.length_filter_le g l
 simp only [List.length_append,List.length_replicate];omega
theorem ZCJ {α:Type} {g:α→Bool} {c:α→List D} {l:List α} {z:α}:((l.filter g++List.replicate (l.length - (l.filter g).length) z).map c).take (l.filter g).length=(l.filter g).map c:=by
 rw [←List.map_take,List.take_left]
end Go.Rx
namespace Go.Rx
open Go
attribute [local irreducible] Req Way WayG Sel Z2 ZQ Zaz cVC Zai ZaO
@[go_sem] def hr188:ZW:=hh [[0],[0]]
@[go_sem] def hl188:ZW:=hh []
attribute [go_sem] Go.Proofs.Tryz.results188
theorem ZCN (n:Nat) (hn:n≤1048576):ZQ Go.Proofs.Tryz.prog 188 [.d (.int .i64 n)] [] [.dead] (.d (.int .i64 ((n%2:Nat):Int))) []:=by
 refine cof Go.Proofs.Tryz.func188 hr188 hl188 [false] ?_
 have e:bAnd .i64 (n:Int) 1=((n%2:Nat):Int):=by
  have:=and64 (a:=n) (b:=1) (by omega) (by omega)
  rw [Nat.and_one_is_mod] at this;exact this
 simp -implicitDefEqProofs only [go_sem,e]
def ZCP (n:Nat) (hn:n≤1048576):=kf (ZCN n hn)
@[go_sem] def hr126:ZW:=hh [[0],[1]]
@[go_sem] def hl126:ZW:=hh []
attribute [go_sem] Go.Proofs.Tryz.results126
theorem ZCQ (t:GTxn):ZQ Go.Proofs.Tryz.prog 126 [.d (.agg t.cells)] [] [.dead] (.d (.bool (decide (Zgx t)))) []:=by
 refine cof Go.Proofs.Tryz.func126 hr126 hl126 [false] ?_
 have e:decide (Zgx t)=(decide (t.Zy=t.Za.Zy)&&decide (t.ZK.Zg=[])):=by
  unfold Zgx;exact Bool.decide_and ..
 have e2:decide (((t.ZK.Zg.length:Nat):Int)=0)=decide (t.ZK.Zg=[]):=decide_eq_decide.2 ⟨fun h=>List.length_eq_zero_iff.1 (by omega),fun h=>by rw [h];rfl⟩
 rw [e]
 simp -implicitDefEqProofs only [go_sem,GTxn.cells]
 cases hr:decide (t.Zy=t.Za.Zy)
 ·simp -implicitDefEqProofs only [go_sem,hr,e2,Bool.false_and,Bool.true_and]
  repeat ((first|refine rq ?_|refine wl ?_|refine gl ?_|fail);simp -implicitDefEqProofs only [go_sem,hr,e2,Bool.false_and,Bool.true_and])
  try rfl
 ·simp -implicitDefEqProofs only [go_sem,hr,e2,Bool.false_and,Bool.true_and]
  repeat ((first|refine rq ?_|refine wl ?_|refine gl ?_|fail);simp -implicitDefEqProofs only [go_sem,hr,e2,Bool.false_and,Bool.true_and])
  try rfl
def ZDq (t:GTxn):=kf (ZCQ t)
@[go_sem] def hr127:ZW:=hh [[0],[1,2],[1,2,3],[1,2,3,9,10,11],[1,2,3,9,10,11],[1,2,3,5,9,10,11],[1,2,3,5,9,10,11],[1,2,3,9,10,11],[2,3],[2,3]]
@[go_sem] def hl127:ZW:=hh [[],[],[],[1,2,3,9,10,11]]
attribute [go_sem] Go.Proofs.Tryz.results127
theorem ZCM (d:ZT) (hd:Zck d):ZQ Go.Proofs.Tryz.prog 127 [.d (.agg d.cells)] [] [.dead] (.d (.agg (Za6 d).cells)) []:=by
 refine cofF Go.Proofs.Tryz.func127 hr127 hl127 ?_
 have h1:=hd.1
 have h2:=hd.2
 simp -implicitDefEqProofs only [go_sem,ZT.cells]
 repeat ((first|refine rq ?_|refine wl ?_|refine gl ?_|refine ZBc d hd (by simp -implicitDefEqProofs only [go_sem,ZT.cells_eq];first|done|rfl) ?_|fail);simp -implicitDefEqProofs only [go_sem,ZT.cells])
 refine ZY (α:=Nat) (fun i=>⟨[(1,.ref 0 0),(2,.ref 1 0),(3,.ref 4 0),(9,.d (.sl (Zae d.Zm))),(10,.d (.int .i64 d.Zm.length)),(11,.d (.int .i64 i))],[(0,some (.box [.d (.sl (strs d.Zv)),.d (.sl (Zae d.Zm))])),(1,some (.box [.own 2 0 0,.own 3 0 0])),(2,some (.arr 1 [])),(3,some (.arr 2 [])),(4,some (.box [.own 5 0 d.Zv.length,.own 6 0 d.Zm.length])),(5,some (.arr 1 (strs (Zgi d i)))),(6,some (.arr 2 (Zae d.Zm)))]⟩)
  (fun i=>i≤d.Zm.length) (fun i=>d.Zm.length - i) 0 rfl (Nat.zero_le _) ?_
 rintro i i1
 have hlen:(Zgi d i).length=d.Zv.length:=ZfN
 have hi1:IntKind.i64.wrap ((i:Int)+1)=((i+1:Nat):Int):=ZV (by simp only [LEN];omega)
 simp -implicitDefEqProofs only [go_sem]
 refine fork (fun h5=>?_) (fun h5=>?_)
 ·obtain ⟨q,hq⟩:=Z3 h5
  have hst:=ZoI hq
  by_cases hp:0≤q.Zu∧q.Zu≤(d.Zv.length:Int) - 1
  ·have dp:decide (Za9 d q.Zu)=true:=decide_eq_true (by unfold Za9;omega)
   rw [if_pos hp] at hst
   have hcast:((q.Zu.toNat:Nat):Int)=q.Zu:=by omega
   obtain ⟨z,hz⟩:=Z3 (l:=Zgi d i) (i:=q.Zu.toNat) (by omega)
   simp -implicitDefEqProofs only [go_sem,ZaY hq,hlen,dp,ZM hz,ZfP]
   repeat ((first|refine rq ?_|refine wl ?_|refine gl ?_|refine ZAU d q.Zu (by omega) (by simp -implicitDefEqProofs only [go_sem,ZT.cells_eq];first|done|rfl) ?_|fail);simp -implicitDefEqProofs only [go_sem,ZaY hq,hlen,dp,ZM hz,ZfP])
   rw [←hst,hi1]
   exact ZP (i+1) rfl (by omega) (by omega)
  ·have dp:decide (Za9 d q.Zu)=false:=decide_eq_false (by unfold Za9;omega)
   rw [if_neg hp] at hst
   simp -implicitDefEqProofs only [go_sem,ZaY hq,hlen,dp]
   repeat ((first|refine rq ?_|refine wl ?_|refine gl ?_|refine ZAU d q.Zu (by omega) (by simp -implicitDefEqProofs only [go_sem,ZT.cells_eq];first|done|rfl) ?_|fail);simp -implicitDefEqProofs only [go_sem,ZaY hq,hlen,dp])
   rw [←hst,hi1]
   exact ZP (i+1) rfl (by omega) (by omega)
 ·have he:Zgi d i=(Za6 d).Zv:=by unfold Zgi;rw [List.take_of_length_le (by omega)];rfl
  have hl2:(Za6 d).Zv.length=d.Zv.length:=Zbb
  rw [he]
  have ht:(strs (Za6 d).Zv).take d.Zv.length=strs (Za6 d).Zv:=by rw [←hl2,Zdz]
  simp -implicitDefEqProofs only [go_sem,ht,ZT.cells]
  repeat ((first|refine rq ?_|refine wl ?_|refine gl ?_|fail);simp -implicitDefEqProofs only [go_sem,ht,ZT.cells])
  rfl
def ZCO (d:ZT) (hd:Zck d):=kf (ZCM d hd)
end Go.Rx
namespace Go.Rx
open Go
attribute [local irreducible] Req Way WayG Sel Z2 ZQ Zaz cVC Zai ZaO
theorem ZCR {m:ZX} {l:List Int}:ZeF m [] l↔l.Pairwise (·< ·)∧∀p∈l,2≤p∧p≤m.Zs - 1:=
 ⟨fun h=>⟨h.1,h.2.1⟩,fun h=>⟨h.1,h.2,by rw [List.nil_append];exact h.1.imp fun h=>by omega⟩⟩
@[go_sem] def hr208:ZW:=hh [[0,1],[2,3],[2,3,8,9,10],[2,3,8,9,10],[2,3,5,6,8,9,10],[],[2,3,8,9,10],[2,3]]
@[go_sem] def hl208:ZW:=hh [[],[],[2,3,8,9,10]]
attribute [go_sem] Go.Proofs.Tryz.results208
theorem ZCS (f:Zau) (m:ZX) (hf:f.Zv.length≤1048576) (hn:m.Zs≤1048576):ZQ Go.Proofs.Tryz.prog 208 [.d (.agg f.cells),.d (.agg m.cells)] [] [.dead,.dead] (.d (.bool (decide (ZnO m f)))) []:=by
 refine cof Go.Proofs.Tryz.func208 hr208 hl208 [false,false] ?_
 have hno:∀j,¬ZeF m [] (f.Zv.take j)→decide (ZnO m f)=false:=fun j hh=>decide_eq_false fun h=>hh (ZoW (ZCR.2 h.2.2))
 simp -implicitDefEqProofs only [go_sem,Zau.cells,ZX.cells]
 repeat ((first|refine rq ?_|refine wl ?_|refine gl ?_|fail);simp -implicitDefEqProofs only [go_sem,Zau.cells,ZX.cells])
 refine ZY (α:=Nat) (fun i=>⟨[(2,.ref 0 0),(3,.ref 1 0),(8,.d (.sl (ints f.Zv))),(9,.d (.int .i64 f.Zv.length)),(10,.d (.int .i64 i))],[(0,some (.box [.d (.int .i64 f.ZF),.d (.sl (ints f.Zv))])),(1,some (.box [.d (.int .i64 m.ZF),.d (.int .i64 m.Zy),.d (.int .i64 m.Zs),.d (.sl (Z9 m.Ze))]))]⟩)
  (fun i=>i≤f.Zv.length∧ZeF m [] (f.Zv.take i)) (fun i=>f.Zv.length - i) 0 rfl ⟨Nat.zero_le _,ZrN List.nodup_nil⟩ ?_
 rintro i ⟨i1,i2⟩
 have hi1:IntKind.i64.wrap ((i:Int)+1)=((i+1:Nat):Int):=ZV (by simp only [LEN];omega)
 simp -implicitDefEqProofs only [go_sem]
 refine fork (fun h5=>?_) (fun h5=>?_)
 ·obtain ⟨x,hx⟩:=Z3 h5
  have hpt:f.Zv.take (i+1)=f.Zv.take i++[x]:=Z7 hx
  have hpn:¬((2≤x∧x≤m.Zs - 1)∧∀y,(f.Zv.take i).getLast? =some y→y<x)→decide (ZnO m f)=false:=fun hh=>hno (i+1) fun h=>hh (by rw [hpt,Ze1] at h;exact ⟨h.2.1,h.2.2.1⟩)
  by_cases c1:x<2
  ·have d1:=decide_eq_true c1
   rw [hpn fun h=>by omega]
   simp -implicitDefEqProofs only [go_sem,ZO hx,d1]
   repeat ((first|refine rq ?_|refine wl ?_|refine gl ?_|fail);simp -implicitDefEqProofs only [go_sem,ZO hx,d1])
  ·have d1:=decide_eq_false c1
   by_cases c2:m.Zs≤x
   ·have d2:=decide_eq_true c2
    rw [hpn fun h=>by omega]
    simp -implicitDefEqProofs only [go_sem,ZO hx,d1,d2]
    repeat ((first|refine rq ?_|refine wl ?_|refine gl ?_|fail);simp -implicitDefEqProofs only [go_sem,ZO hx,d1,d2])
   ·have d2:=decide_eq_false c2
    cases i with
    |zero=>
     have d3:decide ((0:Int)<((0:Nat):Int))=false:=rfl
     simp -implicitDefEqProofs only [go_sem,ZO hx,d1,d2,d3]
     repeat ((first|refine rq ?_|refine wl ?_|refine gl ?_|fail);simp -implicitDefEqProofs only [go_sem,ZO hx,d1,d2,d3])
     rw [hi1]
     exact ZP 1 rfl ⟨by omega,by rw [hpt,Ze1];exact ⟨i2,by omega,fun y hy=>by simp at hy,by simp⟩⟩ (by omega)
    |succ j=>
     obtain ⟨q,hq⟩:=Z3 (l:=f.Zv) (i:=j) (by omega)
     have d3:decide ((0:Int)<((j+1:Nat):Int))=true:=decide_eq_true (by omega)
     have hjw:IntKind.i64.wrap (((j+1:Nat):Int) - 1)=(j:Int):=by rw [Zad (by omega) (by omega)];omega
     by_cases c3:x≤q
     ·have d4:=decide_eq_true c3
      rw [hpn fun h=>by have:=h.2 q (Zjh hq);omega]
      simp -implicitDefEqProofs only [go_sem,ZO hx,ZO hq,d1,d2,d3,d4,hjw]
      repeat ((first|refine rq ?_|refine wl ?_|refine gl ?_|fail);simp -implicitDefEqProofs only [go_sem,ZO hx,ZO hq,d1,d2,d3,d4,hjw])
     ·have d4:=decide_eq_false c3
      simp -implicitDefEqProofs only [go_sem,ZO hx,ZO hq,d1,d2,d3,d4,hjw]
      repeat ((first|refine rq ?_|refine wl ?_|refine gl ?_|fail);simp -implicitDefEqProofs only [go_sem,ZO hx,ZO hq,d1,d2,d3,d4,hjw])
      rw [hi1]
      refine ZP (j+2) rfl ⟨by omega,?_⟩ (by omega)
      have hl:∀y,(f.Zv.take (j+1)).getLast? =some y→y<x:=fun y hy=>by rw [Zif hq hy];omega
      have h1:(f.Zv.take (j+2)).Pairwise (·< ·):=by rw [hpt,Zop];exact ⟨i2.1,hl⟩
      refine ZCR.2 ⟨h1,?_⟩
      rw [hpt]
      intro p hp
      rcases List.mem_append.1 hp with hp|hp
      ·exact i2.2.1 p hp
      ·simp at hp;subst hp;omega
 ·rw [List.take_of_length_le (by omega)] at i2
  have e:decide (ZnO m f)=(decide ((1:Int)≤f.ZF∧f.ZF≤m.ZF)&&decide ((1:Int)≤(f.Zv.length:Int)∧(f.Zv.length:Int)≤40)):=by
   rw [←Bool.decide_and]
   exact decide_eq_decide.2 ⟨fun h=>⟨h.1,by have:=h.2.1;omega⟩,fun h=>⟨h.1,by have:=h.2;omega,i2.1,i2.2.1⟩⟩
  rw [e]
  cases hr:decide ((1:Int)≤f.ZF∧f.ZF≤m.ZF)
  ·simp -implicitDefEqProofs only [go_sem,hr,Bool.false_and]
   repeat ((first|refine rq ?_|refine wl ?_|refine gl ?_|refine ZAc _ _ _ rfl ?_|fail);simp -implicitDefEqProofs only [go_sem,hr,Bool.false_and])
   try rfl
  ·simp -implicitDefEqProofs only [go_sem,hr,Bool.true_and]
   repeat ((first|refine rq ?_|refine wl ?_|refine gl ?_|refine ZAc _ _ _ rfl ?_|fail);simp -implicitDefEqProofs only [go_sem,hr,Bool.true_and])
   try rfl
def ZDp (f:Zau) (m:ZX) (hf:f.Zv.length≤1048576) (hn:m.Zs≤1048576):=kf (ZCS f m hf hn)
end Go.Rx
namespace Go.Rx
open Go
attribute [local irreducible] Req Way WayG Sel Z2 ZQ Zaz cVC Zai ZaO
@[go_sem] def hr162:ZW:=hh [[0],[1],[],[1],[1,3],[1,3,42,43,44],[1,3,42,43,44],[1,3,4,5,42,43,44],[],[1,3,5,42,43,44],[1,3,42,43,44,70,71,72],[1,3,42,43,44,70,71,72],[1,3,7,42,43,44,70,71,72],[],[1,3,7,42,43,44,70,71,72],[1,3,42,43,44,70,71,72],[1,3,42,43,44],[]]
@[go_sem] def hl162:ZW:=hh [[],[],[],[],[],[1,3,42,43,44],[],[],[],[],[1,3,42,43,44,70,71,72]]
attribute [go_sem] Go.Proofs.Tryz.results162
theorem ZCT (m:ZX) (hm:ZaD m):ZQ Go.Proofs.Tryz.prog 162 [.d (.agg m.cells)] [] [.dead] (.d (.bool (decide (Za8 m)))) []:=by
 refine cof Go.Proofs.Tryz.func162 hr162 hl162 [false] ?_
 obtain ⟨hm1,hm2⟩:=hm
 by_cases c1:0≤m.ZF∧m.ZF≤100000
 ·have d1:=decide_eq_true c1
  by_cases c2:2≤m.Zs∧m.Zs≤40
  ·have d2:=decide_eq_true c2
   have e2:IntKind.i64.wrap (m.Zs - 1)=m.Zs - 1:=Zad (by omega) (by omega)
   by_cases c3:m.Zy=0∨2≤m.Zy∧m.Zy≤m.Zs - 1
   ·have d3:decide (m.Zy=0)=true∨decide (m.Zy=0)=false∧decide (2≤m.Zy∧m.Zy≤m.Zs - 1)=true:=by
     by_cases h:m.Zy=0
     ·exact .inl (decide_eq_true h)
     ·exact .inr ⟨decide_eq_false h,decide_eq_true (c3.resolve_left h)⟩
    by_cases c4:m.Ze.length≤20
    ·have d4:decide ((20:Int)<(m.Ze.length:Int))=false:=decide_eq_false (by omega)
     have hd:ZiX m:=⟨c1,c2,c3,c4⟩
     refine (fun (main:Later ?Pb)=>?_) ⟨?mainB⟩
     rotate_left
     ·rcases d3 with d3|⟨d3,d5⟩
      ·simp -implicitDefEqProofs only [go_sem,ZX.cells,d1,d2,d3,d4]
       repeat ((first|refine rq ?_|refine wl ?_|refine gl ?_|refine ZAc _ _ _ rfl ?_|fail);simp -implicitDefEqProofs only [go_sem,ZX.cells,d1,d2,d3,d4])
       exact main.get
      ·simp -implicitDefEqProofs only [go_sem,ZX.cells,d1,d2,d3,e2,d5,d4]
       repeat ((first|refine rq ?_|refine wl ?_|refine gl ?_|refine ZAc _ _ _ rfl ?_|fail);simp -implicitDefEqProofs only [go_sem,ZX.cells,d1,d2,d3,e2,d5,d4])
       exact main.get
     refine ZY (α:=Nat) (fun i=>⟨[(1,.ref 0 0),(3,.own 1 0 (m.Zy::Z5 (m.Ze.take i)).length),(42,.d (.sl (Z9 m.Ze))),(43,.d (.int .i64 m.Ze.length)),(44,.d (.int .i64 i))],[(0,some (.box [.d (.int .i64 m.ZF),.d (.int .i64 m.Zy),.d (.int .i64 m.Zs),.d (.sl (Z9 m.Ze))])),(1,some (.arr 1 (ints (m.Zy::Z5 (m.Ze.take i)))))]⟩)
      (fun i=>i≤m.Ze.length∧Zdu m (m.Ze.take i)) (fun i=>m.Ze.length - i) 0 rfl ⟨Nat.zero_le _,Zpn⟩ ?_
     rintro i ⟨i1,i2⟩
     have hi1:IntKind.i64.wrap ((i:Int)+1)=((i+1:Nat):Int):=ZV (by simp only [LEN];omega)
     have hno:∀j,¬Zdu m (m.Ze.take j)→decide (Za8 m)=false:=fun j hh=>decide_eq_false fun h2=>hh (ZnM h2.2)
     have hsl:(m.Zy::Z5 (m.Ze.take i)).length≤900:=by
      have:=Ze8 i2.1
      simp only [List.length_take,List.length_cons] at this ⊢;omega
     have hSnd:(m.Zy::Z5 (m.Ze.take i)).Nodup:=i2.2.2
     simp -implicitDefEqProofs only [go_sem]
     refine fork (fun h5=>?_) (fun h5=>?_)
     ·obtain ⟨f,hf⟩:=Z3 h5
      have hfl:=hm2 f (List.mem_of_getElem? hf)
      have hst:m.Ze.take (i+1)=m.Ze.take i++[f]:=Z7 hf
      have hSn:m.Zy::Z5 (m.Ze.take (i+1))=(m.Zy::Z5 (m.Ze.take i))++f.Zv:=by rw [hst,Zgq];rfl
      by_cases c6:ZnO m f
      ·have d6:=decide_eq_true c6
       have hf40:=c6.2.1.2
       have hord:(∃j q,i=j+1∧m.Ze[j]? =some q∧f.ZF≤q.ZF)∨(i=0∨∃j q,i=j+1∧m.Ze[j]? =some q∧q.ZF<f.ZF):=by
        rcases Nat.eq_zero_or_pos i with hi|hi
        ·exact .inr (.inl hi)
        ·obtain ⟨q,hq⟩:=Z3 (l:=m.Ze) (i:=i - 1) (by omega)
         by_cases hlt:q.ZF<f.ZF
         ·exact .inr (.inr ⟨i - 1,q,by omega,hq,hlt⟩)
         ·exact .inl ⟨i - 1,q,by omega,hq,by omega⟩
       rcases hord with ⟨j,q,hj,hq,hlt⟩|hord
       ·have hg:decide ((0:Int)<(i:Int))=true:=decide_eq_true (by omega)
        have hjw:IntKind.i64.wrap ((i:Int) - 1)=(j:Int):=by rw [Zad (by omega) (by omega)];omega
        have dlt:=decide_eq_true hlt
        rw [hno (i+1) fun h=>by rw [hst,Ziw] at h;have:=h.2.2.1 q (by rw [hj];exact Zjh hq);omega]
        simp -implicitDefEqProofs only [go_sem,Z4 hf,Z4 hq,d6,hg,hjw,dlt]
        repeat ((first|refine rq ?_|refine wl ?_|refine gl ?_|refine ZDp f m hfl (by omega) (by simp -implicitDefEqProofs only [go_sem,Zau.cells_eq,ZX.cells_eq];first|done|rfl) ?_|fail);simp -implicitDefEqProofs only [go_sem,Z4 hf,Z4 hq,d6,hg,hjw,dlt])
       have hlast:∀g,(m.Ze.take i).getLast? =some g→g.ZF<f.ZF:=by
        rcases hord with rfl|⟨j,q,rfl,hq,hlt⟩
        ·intro g hg;simp at hg
        ·intro g hg;rw [Zif hq hg];exact hlt
       have hgo:(m.Zy::Z5 (m.Ze.take i)++f.Zv).Nodup→Zdu m (m.Ze.take (i+1)):=fun h=>by
        rw [hst,Ziw];exact ⟨i2,c6.1,hlast,c6.2.1,c6.2.2.1,c6.2.2.2,h⟩
       refine (fun (main2:Later ?Pc)=>?_) ⟨?mainC⟩
       rotate_left
       ·rcases hord with hi|⟨j,q,hj,hq,hlt⟩
        ·have hg:decide ((0:Int)<(i:Int))=false:=decide_eq_false (by omega)
         simp -implicitDefEqProofs only [go_sem,Z4 hf,d6,hg]
         repeat ((first|refine rq ?_|refine wl ?_|refine gl ?_|refine ZDp f m hfl (by omega) (by simp -implicitDefEqProofs only [go_sem,Zau.cells_eq,ZX.cells_eq];first|done|rfl) ?_|fail);simp -implicitDefEqProofs only [go_sem,Z4 hf,d6,hg])
         exact main2.get
        ·have hg:decide ((0:Int)<(i:Int))=true:=decide_eq_true (by omega)
         have hjw:IntKind.i64.wrap ((i:Int) - 1)=(j:Int):=by rw [Zad (by omega) (by omega)];omega
         have dlt:decide (f.ZF≤q.ZF)=false:=decide_eq_false (by omega)
         simp -implicitDefEqProofs only [go_sem,Z4 hf,Z4 hq,d6,hg,hjw,dlt]
         repeat ((first|refine rq ?_|refine wl ?_|refine gl ?_|refine ZDp f m hfl (by omega) (by simp -implicitDefEqProofs only [go_sem,Zau.cells_eq,ZX.cells_eq];first|done|rfl) ?_|fail);simp -implicitDefEqProofs only [go_sem,Z4 hf,Z4 hq,d6,hg,hjw,dlt])
         exact main2.get
       have hne:¬Zdu m (m.Ze.take (i+1))→decide (Za8 m)=false:=hno (i+1)
       have hne:¬(True∧(m.Zy::Z5 (m.Ze.take i)++f.Zv).Nodup)→decide (Za8 m)=false:=fun hh=>hne fun h=>hh ⟨trivial,by rw [hst,Ziw] at h;exact h.2.2.2.2.2.2⟩
       generalize hS:m.Zy::Z5 (m.Ze.take i)=S at hsl hSnd hSn hgo hne ⊢
       refine ZY (α:=Nat) (fun k=>⟨[(1,.ref 0 0),(3,.own 1 0 (S++f.Zv.take k).length),(42,.d (.sl (Z9 m.Ze))),(43,.d (.int .i64 m.Ze.length)),(44,.d (.int .i64 i)),(70,.d (.sl (ints f.Zv))),(71,.d (.int .i64 f.Zv.length)),(72,.d (.int .i64 k))],[(0,some (.box [.d (.int .i64 m.ZF),.d (.int .i64 m.Zy),.d (.int .i64 m.Zs),.d (.sl (Z9 m.Ze))])),(1,some (.arr 1 (ints (S++f.Zv.take k))))]⟩)
        (fun k=>k≤f.Zv.length∧(S++f.Zv.take k).Nodup) (fun k=>f.Zv.length - k) 0 (by simp [←hS]) ⟨Nat.zero_le _,by simpa using hSnd⟩ ?_
       rintro k ⟨k1,k2⟩
       have hkl:(S++f.Zv.take k).length≤1000:=by simp only [List.length_append,List.length_take];omega
       have hk1:IntKind.i64.wrap ((k:Int)+1)=((k+1:Nat):Int):=ZV (by simp only [LEN];omega)
       simp -implicitDefEqProofs only [go_sem]
       refine fork (fun h8=>?_) (fun h8=>?_)
       ·obtain ⟨x,hx⟩:=Z3 h8
        have hpt:f.Zv.take (k+1)=f.Zv.take k++[x]:=Z7 hx
        by_cases hm:x∈S++f.Zv.take k
        ·have dm:=decide_eq_true hm
         rw [hne fun h=>by
          have:=h.2.sublist ((List.take_sublist (k+1) f.Zv).append_left S)
          rw [hpt,←List.append_assoc] at this
          exact (List.nodup_append.1 this).2.2 x hm x (by simp) rfl]
         simp -implicitDefEqProofs only [go_sem,ZO hx,dm]
         repeat ((first|refine rq ?_|refine wl ?_|refine gl ?_|refine ZAb (S++f.Zv.take k) x (by simp only [LEN];omega) (ls:=[1]) (by simp -implicitDefEqProofs only [go_sem,Zby];first|done|rfl) ?_|fail);simp -implicitDefEqProofs only [go_sem,ZO hx,dm])
         done
        ·have dm:=decide_eq_false hm
         have hnd:(S++f.Zv.take (k+1)).Nodup:=by
          rw [hpt,←List.append_assoc,List.nodup_append]
          exact ⟨k2,by simp,fun a ha b hb=>by simp at hb;subst hb;rintro rfl;exact hm ha⟩
         simp -implicitDefEqProofs only [go_sem,ZO hx,dm]
         repeat ((first|refine rq ?_|refine wl ?_|refine gl ?_|refine ZAb (S++f.Zv.take k) x (by simp only [LEN];omega) (ls:=[1]) (by simp -implicitDefEqProofs only [go_sem,Zby];first|done|rfl) ?_|fail);simp -implicitDefEqProofs only [go_sem,ZO hx,dm])
         rw [hk1]
         refine ZP (k+1) ?_ ⟨by omega,hnd⟩ (by omega)
         simp [hpt,ints,Nat.add_assoc]
       ·have hk:k=f.Zv.length:=by omega
        subst hk
        rw [List.take_length] at k2 ⊢
        simp -implicitDefEqProofs only [go_sem]
        repeat ((first|refine rq ?_|refine wl ?_|refine gl ?_|fail);simp -implicitDefEqProofs only [go_sem])
        rw [hi1]
        refine ZP (i+1) ?_ ⟨by omega,hgo k2⟩ (by omega)
        rw [hSn]
      ·have d6:=decide_eq_false c6
       rw [hno (i+1) fun h=>c6 (h.1 f (by rw [hst];simp))]
       simp -implicitDefEqProofs only [go_sem,Z4 hf,d6]
       repeat ((first|refine rq ?_|refine wl ?_|refine gl ?_|refine ZDp f m hfl (by omega) (by simp -implicitDefEqProofs only [go_sem,Zau.cells_eq,ZX.cells_eq];first|done|rfl) ?_|fail);simp -implicitDefEqProofs only [go_sem,Z4 hf,d6])
     ·have hi:i=m.Ze.length:=by omega
      subst hi
      rw [List.take_length] at i2
      have hyes:decide (Za8 m)=true:=decide_eq_true ⟨hd,i2⟩
      rw [hyes]
      simp -implicitDefEqProofs only [go_sem]
      repeat ((first|refine rq ?_|refine wl ?_|refine gl ?_|fail);simp -implicitDefEqProofs only [go_sem])
    ·have d4:decide ((20:Int)<(m.Ze.length:Int))=true:=decide_eq_true (by omega)
     have hno:decide (Za8 m)=false:=decide_eq_false fun h=>c4 h.1.2.2.2
     rw [hno]
     rcases d3 with d3|⟨d3,d5⟩
     ·simp -implicitDefEqProofs only [go_sem,ZX.cells,d1,d2,d3,d4]
      repeat ((first|refine rq ?_|refine wl ?_|refine gl ?_|refine ZAc _ _ _ rfl ?_|fail);simp -implicitDefEqProofs only [go_sem,ZX.cells,d1,d2,d3,d4])
     ·simp -implicitDefEqProofs only [go_sem,ZX.cells,d1,d2,d3,e2,d5,d4]
      repeat ((first|refine rq ?_|refine wl ?_|refine gl ?_|refine ZAc _ _ _ rfl ?_|fail);simp -implicitDefEqProofs only [go_sem,ZX.cells,d1,d2,d3,e2,d5,d4])
   ·have d3:decide (m.Zy=0)=false:=decide_eq_false fun h=>c3 (.inl h)
    have d5:decide (2≤m.Zy∧m.Zy≤m.Zs - 1)=false:=decide_eq_false fun h=>c3 (.inr h)
    have hno:decide (Za8 m)=false:=decide_eq_false fun h=>c3 h.1.2.2.1
    rw [hno]
    simp -implicitDefEqProofs only [go_sem,ZX.cells,d1,d2,d3,e2,d5]
    repeat ((first|refine rq ?_|refine wl ?_|refine gl ?_|refine ZAc _ _ _ rfl ?_|fail);simp -implicitDefEqProofs only [go_sem,ZX.cells,d1,d2,d3,e2,d5])
  ·have d2:=decide_eq_false c2
   have hno:decide (Za8 m)=false:=decide_eq_false fun h=>c2 h.1.2.1
   rw [hno]
   simp -implicitDefEqProofs only [go_sem,ZX.cells,d1,d2]
   repeat ((first|refine rq ?_|refine wl ?_|refine gl ?_|refine ZAc _ _ _ rfl ?_|fail);simp -implicitDefEqProofs only [go_sem,ZX.cells,d1,d2])
 ·have d1:=decide_eq_false c1
  have hno:decide (Za8 m)=false:=decide_eq_false fun h=>c1 h.1.1
  rw [hno]
  simp -implicitDefEqProofs only [go_sem,ZX.cells,d1]
  repeat ((first|refine rq ?_|refine wl ?_|refine gl ?_|refine ZAc _ _ _ rfl ?_|fail);simp -implicitDefEqProofs only [go_sem,ZX.cells,d1])
def ZDr (m:ZX) (hm:ZaD m):=kf (ZCT m hm)
end Go.Rx
namespace Go.Rx
open Go
attribute [local irreducible] Req Way WayG Sel Z2 ZQ Zaz cVC Zai ZaO
@[go_sem] def hr95:ZW:=hh [[0],[1],[],[1],[1,4],[4,29,30,31],[4,29,30,31],[4,6,29,30,31],[4,6,29,30,31],[4,29,30,31,46,47,48],[4,29,30,31,46,47,48],[4,8,29,30,31,46,47,48],[4,29,30,31,46,47,48],[4,29,30,31],[4],[4],[],[4]]
@[go_sem] def hl95:ZW:=hh [[],[],[],[],[],[4,29,30,31],[],[],[],[4,29,30,31,46,47,48]]
attribute [go_sem] Go.Proofs.Tryz.results95
theorem ZCV (m:ZX) (hm:ZaD m):ZQ Go.Proofs.Tryz.prog 95 [.d (.agg m.cells)] [] [.dead] (Zbo m) []:=by
 refine cof Go.Proofs.Tryz.func95 hr95 hl95 [false] ?_
 have hm':=hm
 obtain ⟨hm1,hm2⟩:=hm'
 by_cases hok:Za8 m
 ·have dok:=decide_eq_true hok
  obtain ⟨⟨⟨c1,c1'⟩,⟨c2,c2'⟩,c3,c4⟩,c5,c6,c7⟩:=id hok
  have hlen:=ZjH hok
  obtain ⟨tx,htx⟩:=Int.eq_ofNat_of_zero_le c1
  obtain ⟨rt,hrt⟩:=Int.eq_ofNat_of_zero_le (show 0≤m.Zy by omega)
  obtain ⟨nx,hnx⟩:=Int.eq_ofNat_of_zero_le (show 0≤m.Zs by omega)
  have v1:=ZdR (n:=tx) (by omega)
  have v2:=Zdd (n:=rt) (by omega)
  have v3:=Zdd (n:=nx) (by omega)
  have v4:=Zdd (n:=m.Ze.length) (by omega)
  have hh:Zvb m=varB tx++varB rt++varB nx++varB m.Ze.length:=by rw [Zvb,nB,nB,nB,htx,hrt,hnx];rfl
  simp -implicitDefEqProofs only [go_sem,ZX.cells]
  refine ZDr m hm rfl ?_
  simp -implicitDefEqProofs only [go_sem,dok,htx,hrt,hnx]
  repeat ((first|refine rq ?_|refine wl ?_|refine gl ?_|refine ZCU tx (by omega) rfl ?_|refine ZCU rt (by omega) rfl ?_|refine ZCU nx (by omega) rfl ?_|refine ZCU m.Ze.length (by omega) rfl ?_|fail);simp -implicitDefEqProofs only [go_sem,dok,htx,hrt,hnx])
  refine ZY (α:=Nat) (fun i=>⟨[(4,.d (.str (Zhe m i))),(29,.d (.sl (Z9 m.Ze))),(30,.d (.int .i64 m.Ze.length)),(31,.d (.int .i64 i))],[]⟩)
   (fun i=>i≤m.Ze.length) (fun i=>m.Ze.length - i) 0 (by rw [ZrZ,hh];rfl) (Nat.zero_le _) ?_
  rintro i i1
  have hpl:=Znk (i:=i) hok
  have hi1:IntKind.i64.wrap ((i:Int)+1)=((i+1:Nat):Int):=ZV (by simp only [LEN];omega)
  simp -implicitDefEqProofs only [go_sem]
  refine fork (fun h5=>?_) (fun h5=>?_)
  ·obtain ⟨f,hf⟩:=Z3 h5
   obtain ⟨f1,f2,f3,f4⟩:=c5 f (List.mem_of_getElem? hf)
   obtain ⟨ft,hft⟩:=Int.eq_ofNat_of_zero_le (show 0≤f.ZF by omega)
   have w1:=ZdR (n:=ft) (by omega)
   have w2:=Zdd (n:=f.Zv.length) (by omega)
   have hfz:Zhp f 0=varB ft++varB f.Zv.length:=by rw [Zsm,nB,hft];rfl
   have hpl1:=Znk (i:=i+1) hok
   rw [Zla hf,List.length_append] at hpl1
   simp -implicitDefEqProofs only [go_sem,Z4 hf,hft]
   repeat ((first|refine rq ?_|refine wl ?_|refine gl ?_|refine ZCU ft (by omega) rfl ?_|refine ZCU f.Zv.length (by omega) rfl ?_|fail);simp -implicitDefEqProofs only [go_sem,Z4 hf,hft])
   refine ZY (α:=Nat) (fun k=>⟨[(4,.d (.str (Zhe m i++Zhp f k))),(29,.d (.sl (Z9 m.Ze))),(30,.d (.int .i64 m.Ze.length)),(31,.d (.int .i64 i)),(46,.d (.sl (ints f.Zv))),(47,.d (.int .i64 f.Zv.length)),(48,.d (.int .i64 k))],[]⟩)
    (fun k=>k≤f.Zv.length) (fun k=>f.Zv.length - k) 0 (by rw [hfz];simp [List.append_assoc]) (Nat.zero_le _) ?_
   rintro k k1
   have hfl:= @Zve f k
   have hk1:IntKind.i64.wrap ((k:Int)+1)=((k+1:Nat):Int):=ZV (by simp only [LEN];omega)
   simp -implicitDefEqProofs only [go_sem]
   refine fork (fun h8=>?_) (fun h8=>?_)
   ·obtain ⟨x,hx⟩:=Z3 h8
    have hxm:=f4 x (List.mem_of_getElem? hx)
    obtain ⟨q,rfl⟩:=Int.eq_ofNat_of_zero_le (show 0≤x by omega)
    have w3:=Zdd (n:=q) (by omega)
    have hs:Zhe m i++Zhp f (k+1)=Zhe m i++Zhp f k++varB q:=by rw [Zsn hx,nB,List.append_assoc];rfl
    simp -implicitDefEqProofs only [go_sem,ZO hx]
    repeat ((first|refine rq ?_|refine wl ?_|refine gl ?_|refine ZCU q (by omega) rfl ?_|fail);simp -implicitDefEqProofs only [go_sem,ZO hx])
    rw [hk1]
    refine ZP (k+1) ?_ (by omega) (by omega)
    rw [hs]
   ·have hk:k=f.Zv.length:=by omega
    subst hk
    simp -implicitDefEqProofs only [go_sem]
    repeat ((first|refine rq ?_|refine wl ?_|refine gl ?_|fail);simp -implicitDefEqProofs only [go_sem])
    rw [hi1]
    refine ZP (i+1) ?_ (by omega) (by omega)
    rw [Zla hf,Zvf]
  ·have hi:i=m.Ze.length:=by omega
   subst hi
   have hT:Zds m=Zgw (ZdD m):=rfl
   have h4:(four (ZlZ (ZdD m))).length=4:=rfl
   have hsb:ZdD m++four (ZlZ (ZdD m))=Zgw (ZdD m):=rfl
   simp -implicitDefEqProofs only [go_sem,ZuA]
   refine ZBd (ZdD m) (by simp only [LEN];omega) rfl ?_
   simp -implicitDefEqProofs only [go_sem,hsb]
   repeat ((first|refine rq ?_|refine wl ?_|refine gl ?_|fail);simp -implicitDefEqProofs only [go_sem,hsb])
   by_cases hl:(240:Int)<(Zgw (ZdD m)).length
   ·have dl:=decide_eq_true hl
    have hno:Zav m=none:=by rw [Zav,if_neg fun h=>by have:=h.2;rw [hT] at this;omega]
    rw [Zbo,hno]
    simp -implicitDefEqProofs only [go_sem,dl]
    repeat ((first|refine rq ?_|refine wl ?_|refine gl ?_|fail);simp -implicitDefEqProofs only [go_sem,dl])
    try rfl
   ·have dl:=decide_eq_false hl
    have hyes:Zav m=some (Zgw (ZdD m)):=by rw [Zav,if_pos ⟨hok,by rw [hT];omega⟩,hT]
    rw [Zbo,hyes]
    simp -implicitDefEqProofs only [go_sem,dl]
    repeat ((first|refine rq ?_|refine wl ?_|refine gl ?_|fail);simp -implicitDefEqProofs only [go_sem,dl])
    try rfl
 ·have dok:=decide_eq_false hok
  have hno:Zav m=none:=by rw [Zav,if_neg fun h=>hok h.1]
  rw [Zbo,hno]
  simp -implicitDefEqProofs only [go_sem,ZX.cells]
  refine ZDr m hm rfl ?_
  simp -implicitDefEqProofs only [go_sem,dok]
  repeat ((first|refine rq ?_|refine wl ?_|refine gl ?_|fail);simp -implicitDefEqProofs only [go_sem,dok])
  try rfl
def ZCX (m:ZX) (hm:ZaD m):=kf (ZCV m hm)
end Go.Rx
namespace Go.Rx
open Go
attribute [local irreducible] Req Way WayG Sel Z2 ZQ Zaz cVC Zai ZaO
@[go_sem] def hr137:ZW:=hh [[0,1],[0,1]]
@[go_sem] def hl137:ZW:=hh []
attribute [go_sem] Go.Proofs.Tryz.results137
theorem ZCZ (p:Int) (t:GTxn) (hl:t.ZK.Zf.length≤LEN):ZQ Go.Proofs.Tryz.prog 137 [.d (.int .i64 p),.d (.ptr t.cells)] [] [.dead,.dead] (.d (.bool (decide (p∈t.ZK.Zf)))) []:=by
 refine cof Go.Proofs.Tryz.func137 hr137 hl137 [false,false] ?_
 simp -implicitDefEqProofs only [go_sem,GTxn.cells]
 repeat ((first|refine rq ?_|refine wl ?_|refine gl ?_|refine ZAb t.ZK.Zf p hl rfl ?_|fail);simp -implicitDefEqProofs only [go_sem,GTxn.cells])
 try rfl
def ki_nm1 (p:Int) (t:GTxn) (hl:t.ZK.Zf.length≤LEN):=kf (ZCZ p t hl)
@[go_sem] def hr63:ZW:=hh [[0],[1,2],[1,2,4],[1,2,4,25,26,27],[1,2,4,25,26,27],[1,2,4,6,25,26,27],[1,2,4,6,7,25,26,27],[1,2,4,6,7,25,26,27],[1,2,4,25,26,27],[1,2,4],[1,2,4,8],[1,2,4,8,55,56,57],[1,2,4,8,55,56,57],[1,2,4,8,10,55,56,57],[1,2,4,8,10,55,56,57],[1,2,4,8,55,56,57],[2,4,8],[2,4,8],[2,4,8],[2,4],[2,4,12],[2],[2,4]]
@[go_sem] def hl63:ZW:=hh [[],[],[],[1,2,4,25,26,27],[],[],[],[],[],[],[],[1,2,4,8,55,56,57]]
attribute [go_sem] Go.Proofs.Tryz.results63
theorem ZCY (t : GTxn) (h1 : Za8 t.Za) (h2 : smallW t.ZK) (h3 : t.ZK.Zg.length + t.ZK.ZH.length ≤ 1000) (h4 : (ZaM t).length ≤ 1000) : ZQ Go.Proofs.Tryz.prog 63 [.d (.agg t.cells)] [] [.dead] (Zbf t) [] := by
  refine cofF Go.Proofs.Tryz.func63 hr63 hl63 ?_
  have ht := ZgE h1.1.1
  have e0 : IntKind.i64.wrap (t.Za.ZF + 1) = t.Za.ZF + 1 := by have := h1.1.1; exact Zad (by omega) (by omega)
  simp -implicitDefEqProofs only [go_sem, GTxn.cells]
  simp -implicitDefEqProofs only [go_sem, e0]
  repeat ((first | refine rq ?_ | refine wl ?_ | refine gl ?_ | fail); simp -implicitDefEqProofs only [go_sem, e0])
  refine ZY (α := Nat) (fun i => ⟨[(1, .ref 0 0), (2, .ref 1 0), (4, .ref 3 0), (25, .d (.sl (Z9 t.Za.Ze))), (26, .d (.int .i64 t.Za.Ze.length)), (27, .d (.int .i64 i))], [(0, some (.box [.d (.int .i64 t.Za.ZF), .d (.int .i64 t.Za.Zy), .d (.int .i64 t.Za.Zs), .d (.sl (Z9 t.Za.Ze)), .d (.sl (strs t.ZK.Zc.Zv)), .d (.sl (Zae t.ZK.Zc.Zm)), .d (.int .i64 t.ZK.Zs), .d (.sl (ints t.ZK.ZH)), .d (.sl (ints t.ZK.Zg)), .d (.sl (ints t.ZK.Zf)), .d (.int .i64 t.Zy)])), (1, some (.box [.d (.int .i64 0), .d (.int .i64 0), .d (.int .i64 0), .own 2 0 0])), (2, some (.arr 2 [])), (3, some (.box [.d (.int .i64 (t.Za.ZF + 1)), .d (.int .i64 t.Zy), .d (.int .i64 t.ZK.Zs), .own 4 0 (ZaB t.ZK.Zf (t.Za.Ze.take i)).length])), (4, some (.arr 2 (Z9 (ZaB t.ZK.Zf (t.Za.Ze.take i)))))]⟩)
    (fun i => i ≤ t.Za.Ze.length) (fun i => t.Za.Ze.length - i) 0 rfl (Nat.zero_le _) ?_
  rintro i i1
  have hfl := h1.1.2.2.2
  have hfr : t.ZK.Zf.length ≤ LEN := by have := h2.2.2.2; have := h2.1.2; simp only [LEN]; omega
  have hkl := Zw3 (fresh := t.ZK.Zf) (l := t.Za.Ze.take i)
  simp only [List.length_take] at hkl
  have hi1 : IntKind.i64.wrap ((i : Int) + 1) = ((i + 1 : Nat) : Int) := ZV (by simp only [LEN]; omega)
  simp -implicitDefEqProofs only [go_sem]
  refine fork (fun h5 => ?_) (fun h5 => ?_)
  · obtain ⟨f, hf⟩ := Z3 h5
    have hpl := (h1.2.1 f (List.mem_of_getElem? hf)).2.1.2
    have hst := ZuX (fresh := t.ZK.Zf) hf
    simp -implicitDefEqProofs only [go_sem, Z4 hf]
    repeat ((first | refine rq ?_ | refine wl ?_ | refine gl ?_ | refine ZBe f.Zv (by omega) rfl ?_ | fail); simp -implicitDefEqProofs only [go_sem, Z4 hf])
    refine ZBF (n := 3000) (ls := [0]) (xs := [.clo 137 [.ptr t.cells]]) rfl rfl rfl (ZDs f.Zv _ [.ptr t.cells] (fun p => decide (p ∈ t.ZK.Zf)) (by omega) fun p _ => ZCZ p t hfr) (by rw [Za7, Za7, ZCL]) (.own _ _ _) Zhu ?_
    have hni : (f.Zv.filter fun x => !decide (x ∈ t.ZK.Zf)) = ZiJ t.ZK.Zf f.Zv := rfl
    rw [hni]
    have htk : (ints (ZiJ t.ZK.Zf f.Zv ++ List.replicate (f.Zv.length - (ZiJ t.ZK.Zf f.Zv).length) 0)).take (ZiJ t.ZK.Zf f.Zv).length = ints (ZiJ t.ZK.Zf f.Zv) := ZCJ
    have hnl := Zut (fresh := t.ZK.Zf) (l := f.Zv)
    by_cases hpos : 0 < (ZiJ t.ZK.Zf f.Zv).length
    · have dp : decide ((0 : Int) < ((ZiJ t.ZK.Zf f.Zv).length : Int)) = true := decide_eq_true (by omega)
      rw [if_pos hpos] at hst
      simp -implicitDefEqProofs only [go_sem, dp, Z4 hf, Zau.cells, htk]
      repeat ((first | refine rq ?_ | refine wl ?_ | refine gl ?_ | fail); simp -implicitDefEqProofs only [go_sem, dp, Z4 hf, Zau.cells, htk])
      rw [hi1]
      refine ZP (i + 1) ?_ (by omega) (by omega)
      simp [hst, Z9, Zau.cells]
    · have dp : decide ((0 : Int) < ((ZiJ t.ZK.Zf f.Zv).length : Int)) = false := decide_eq_false (by omega)
      rw [if_neg hpos, List.append_nil] at hst
      simp -implicitDefEqProofs only [go_sem, dp]
      repeat ((first | refine rq ?_ | refine wl ?_ | refine gl ?_ | fail); simp -implicitDefEqProofs only [go_sem, dp])
      rw [hi1, ← hst]
      exact ZP (i + 1) rfl (by omega) (by omega)
  · have hi : i = t.Za.Ze.length := by omega
    subst hi
    rw [List.take_length] at hkl ⊢
    simp -implicitDefEqProofs only [go_sem]
    repeat ((first | refine rq ?_ | refine wl ?_ | refine gl ?_ | refine ZBe t.ZK.Zg (by omega) rfl ?_ | fail); simp -implicitDefEqProofs only [go_sem])
    refine ZY (α := Nat) (fun i => ⟨[(1, .ref 0 0), (2, .ref 1 0), (4, .ref 3 0), (8, .own 5 0 (Zgb t i).length), (55, .d (.sl (ints t.ZK.ZH))), (56, .d (.int .i64 t.ZK.ZH.length)), (57, .d (.int .i64 i))], [(0, some (.box [.d (.int .i64 t.Za.ZF), .d (.int .i64 t.Za.Zy), .d (.int .i64 t.Za.Zs), .d (.sl (Z9 t.Za.Ze)), .d (.sl (strs t.ZK.Zc.Zv)), .d (.sl (Zae t.ZK.Zc.Zm)), .d (.int .i64 t.ZK.Zs), .d (.sl (ints t.ZK.ZH)), .d (.sl (ints t.ZK.Zg)), .d (.sl (ints t.ZK.Zf)), .d (.int .i64 t.Zy)])), (1, some (.box [.d (.int .i64 0), .d (.int .i64 0), .d (.int .i64 0), .own 2 0 0])), (2, some (.arr 2 [])), (3, some (.box [.d (.int .i64 (t.Za.ZF + 1)), .d (.int .i64 t.Zy), .d (.int .i64 t.ZK.Zs), .own 4 0 (ZaB t.ZK.Zf t.Za.Ze).length])), (4, some (.arr 2 (Z9 (ZaB t.ZK.Zf t.Za.Ze)))), (5, some (.arr 1 (ints (Zgb t i))))]⟩)
      (fun i => i ≤ t.ZK.ZH.length) (fun i => t.ZK.ZH.length - i) 0 (by simp [Zgb]) (Nat.zero_le _) ?_
    rintro i i1
    have hnl := Znh (t := t) (i := i)
    have hi1 : IntKind.i64.wrap ((i : Int) + 1) = ((i + 1 : Nat) : Int) := ZV (by simp only [LEN]; omega)
    simp -implicitDefEqProofs only [go_sem]
    refine fork (fun h8 => ?_) (fun h8 => ?_)
    · obtain ⟨x, hx⟩ := Z3 h8
      have hns := ZrW hx
      by_cases hm : t.Za.Zs ≤ x
      · have dm := decide_eq_true hm
        rw [if_pos hm] at hns
        simp -implicitDefEqProofs only [go_sem, ZO hx, dm]
        repeat ((first | refine rq ?_ | refine wl ?_ | refine gl ?_ | fail); simp -implicitDefEqProofs only [go_sem, ZO hx, dm])
        rw [hi1]
        refine ZP (i + 1) ?_ (by omega) (by omega)
        simp [hns, ints]
      · have dm := decide_eq_false hm
        rw [if_neg hm, List.append_nil] at hns
        simp -implicitDefEqProofs only [go_sem, ZO hx, dm]
        repeat ((first | refine rq ?_ | refine wl ?_ | refine gl ?_ | fail); simp -implicitDefEqProofs only [go_sem, ZO hx, dm])
        rw [hi1, ← hns]
        exact ZP (i + 1) rfl (by omega) (by omega)
    · have hi : i = t.ZK.ZH.length := by omega
      subst hi
      have hall := Zni (t := t)
      have hpl : (ZaM t).length = (Zgb t t.ZK.ZH.length).length := by rw [← hall, Zbw]
      simp -implicitDefEqProofs only [go_sem]
      repeat ((first | refine rq ?_ | refine wl ?_ | refine gl ?_ | refine ZBH (Zgb t t.ZK.ZH.length) (by omega) rfl ?_ | fail); simp -implicitDefEqProofs only [go_sem])
      rw [hall, ← hpl]
      have hss : (ints (ZaM t)).take (ZaM t).length = ints (ZaM t) := Zby
      unfold Zbf Zdb
      by_cases hpos : 0 < (ZaM t).length
      · have dp : decide ((0 : Int) < ((ZaM t).length : Int)) = true := decide_eq_true (by omega)
        have hM : Zbg t = ⟨t.Za.ZF + 1, t.Zy, t.ZK.Zs, ZaB t.ZK.Zf t.Za.Ze ++ [⟨t.Za.ZF + 1, ZaM t⟩]⟩ := by rw [Zbg, ht, if_pos hpos]
        have hsm : ZaD ⟨t.Za.ZF + 1, t.Zy, t.ZK.Zs, (ZaB t.ZK.Zf t.Za.Ze ++ [⟨t.Za.ZF + 1, ZaM t⟩])⟩ := by
          refine ⟨by simp only [List.length_append, List.length_cons, List.length_nil]; omega, fun f hf => ?_⟩
          have hk := Zlo (fresh := t.ZK.Zf) (n := 1000) fun f hf => (by have := (h1.2.1 f hf).2.1.2; omega : f.Zv.length ≤ 1000)
          have : f.Zv.length ≤ 1000 := by
            simp only [List.mem_append, List.mem_singleton] at hf
            first
              | exact hk f hf
              | (rcases hf with hf | rfl
                 · exact hk f hf
                 · exact h4)
          show f.Zv.length ≤ 1048576
          omega
        rw [hM]
        simp -implicitDefEqProofs only [go_sem, dp, Zau.cells, hss]
        repeat ((first | refine rq ?_ | refine wl ?_ | refine gl ?_ | refine ZCX ⟨t.Za.ZF + 1, t.Zy, t.ZK.Zs, (ZaB t.ZK.Zf t.Za.Ze ++ [⟨t.Za.ZF + 1, ZaM t⟩])⟩ hsm (ls := [3]) (by simp -implicitDefEqProofs only [go_sem, ZX.cells]; first | done | rfl) ?_ | fail); simp -implicitDefEqProofs only [go_sem, dp, Zau.cells, hss])
        rw [Zbo]
        cases hmt : Zav ⟨t.Za.ZF + 1, t.Zy, t.ZK.Zs, (ZaB t.ZK.Zf t.Za.Ze ++ [⟨t.Za.ZF + 1, ZaM t⟩])⟩ with
        | none =>
          simp only [Option.isSome_none, Option.getD_none, Option.map_none]
          simp -implicitDefEqProofs only [go_sem]
          repeat ((first | refine rq ?_ | refine wl ?_ | refine gl ?_ | fail); simp -implicitDefEqProofs only [go_sem])
          try rfl
        | some u =>
          simp only [Option.isSome_some, Option.getD_some, Option.map_some]
          simp -implicitDefEqProofs only [go_sem, ZX.cells]
          repeat ((first | refine rq ?_ | refine wl ?_ | refine gl ?_ | fail); simp -implicitDefEqProofs only [go_sem, ZX.cells])
          try rfl
      · have dp : decide ((0 : Int) < ((ZaM t).length : Int)) = false := decide_eq_false (by omega)
        have hM : Zbg t = ⟨t.Za.ZF + 1, t.Zy, t.ZK.Zs, ZaB t.ZK.Zf t.Za.Ze⟩ := by rw [Zbg, ht, if_neg hpos, List.append_nil]
        have hsm : ZaD ⟨t.Za.ZF + 1, t.Zy, t.ZK.Zs, (ZaB t.ZK.Zf t.Za.Ze)⟩ := by
          refine ⟨by simp only [List.length_append, List.length_cons, List.length_nil]; omega, fun f hf => ?_⟩
          have hk := Zlo (fresh := t.ZK.Zf) (n := 1000) fun f hf => (by have := (h1.2.1 f hf).2.1.2; omega : f.Zv.length ≤ 1000)
          have : f.Zv.length ≤ 1000 := by
            simp only [List.mem_append, List.mem_singleton] at hf
            first
              | exact hk f hf
              | (rcases hf with hf | rfl
                 · exact hk f hf
                 · exact h4)
          show f.Zv.length ≤ 1048576
          omega
        rw [hM]
        simp -implicitDefEqProofs only [go_sem, dp, Zau.cells, hss]
        repeat ((first | refine rq ?_ | refine wl ?_ | refine gl ?_ | refine ZCX ⟨t.Za.ZF + 1, t.Zy, t.ZK.Zs, (ZaB t.ZK.Zf t.Za.Ze)⟩ hsm (ls := [3]) (by simp -implicitDefEqProofs only [go_sem, ZX.cells]; first | done | rfl) ?_ | fail); simp -implicitDefEqProofs only [go_sem, dp, Zau.cells, hss])
        rw [Zbo]
        cases hmt : Zav ⟨t.Za.ZF + 1, t.Zy, t.ZK.Zs, (ZaB t.ZK.Zf t.Za.Ze)⟩ with
        | none =>
          simp only [Option.isSome_none, Option.getD_none, Option.map_none]
          simp -implicitDefEqProofs only [go_sem]
          repeat ((first | refine rq ?_ | refine wl ?_ | refine gl ?_ | fail); simp -implicitDefEqProofs only [go_sem])
          try rfl
        | some u =>
          simp only [Option.isSome_some, Option.getD_some, Option.map_some]
          simp -implicitDefEqProofs only [go_sem, ZX.cells]
          repeat ((first | refine rq ?_ | refine wl ?_ | refine gl ?_ | fail); simp -implicitDefEqProofs only [go_sem, ZX.cells])
          try rfl
def ZC0 (t:GTxn) (h1:Za8 t.Za) (h2:smallW t.ZK) (h3:t.ZK.Zg.length+t.ZK.ZH.length≤1000) (h4:(ZaM t).length≤1000):=kf (ZCY t h1 h2 h3 h4)
end Go.Rx
namespace Go.Rx
open Go
attribute [local irreducible] Req Way WayG Sel Z2 ZQ Zaz cVC Zai ZaO
@[go_sem] def hr128:ZW:=hh [[0,1],[2,3,4],[2,3,4,6]]
@[go_sem] def hl128:ZW:=hh []
attribute [go_sem] Go.Proofs.Tryz.results128
theorem ZC1 (t:GTxn) (m:ZX) (text:Key) (n:Nat) (hn:m.ZF=n) (hn2:n≤1048576) (hm:Zav m=some text) (h2:Zck t.ZK.Zc):ZQ Go.Proofs.Tryz.prog 128 [.d (.agg t.cells),.d (.agg m.cells)] [] [.dead,.dead] (.tup [.d (.agg (wrF (Za6 t.ZK.Zc) ((n%2:Nat):Int) text).cells),.d (.bool (Zak (Za6 t.ZK.Zc) ((n%2:Nat):Int) text).isSome)]) []:=by
 refine cofF Go.Proofs.Tryz.func128 hr128 hl128 ?_
 obtain ⟨m1,m2,m3⟩:=ZdC hm
 have hmt:Zbo m= .tup [.d (.str text),.d (.bool true)]:=by rw [Zbo,hm];rfl
 simp -implicitDefEqProofs only [go_sem,GTxn.cells,ZX.cells,ZT.cells,hmt,hn]
 repeat ((first|refine rq ?_|refine wl ?_|refine gl ?_|refine ZCX m (ZaK m1) (by simp -implicitDefEqProofs only [go_sem,ZX.cells_eq,hn];first|done|rfl) ?_|refine ZCO t.ZK.Zc h2 (by simp -implicitDefEqProofs only [go_sem,ZT.cells_eq];first|done|rfl) ?_|refine ZCP n hn2 rfl ?_|refine ZC3 (Za6 t.ZK.Zc) ((n%2:Nat):Int) text (Zgt h2) (by simp -implicitDefEqProofs only [go_sem,ZT.cells_eq];first|done|rfl) ?_|fail);simp -implicitDefEqProofs only [go_sem,GTxn.cells,ZX.cells,ZT.cells,hmt,hn])
 rw [Ztv]
def ZDd (t:GTxn) (m:ZX) (text:Key) (n:Nat) (hn:m.ZF=n) (hn2:n≤1048576) (hm:Zav m=some text) (h2:Zck t.ZK.Zc):=kf (ZC1 t m text n hn hn2 hm h2)
@[go_sem] def hr129:ZW:=hh [[0,1,2],[1,2,3,6],[1,2,3,6,7],[6,7],[1,2,3,6,7],[1,2,6,7,18,19,20],[1,2,6,7,18,19,20],[1,2,6,7,8,9,18,19,20],[1,2,6,7,8,9,18,19,20],[1,2,6,7,8,9,10,18,19,20],[1,2,6,7,9,10,18,19,20],[1,2,6,7,9,10,18,19,20],[1,2,6,7,18,19,20],[6,7],[6,7]]
@[go_sem] def hl129:ZW:=hh [[],[],[],[],[],[1,2,6,7,18,19,20]]
attribute [go_sem] Go.Proofs.Tryz.results129
theorem ZC6 (d:ZT) (hd:Za5 d) (left:List Bool) (hl:left.length≤1048576) (torn:Int):ZQ Go.Proofs.Tryz.prog 129 [.d (.agg d.cells),.d (.sl (bls left)),.d (.int .i64 torn)] [] [.dead,.dead,.dead] (.d (.agg (Zb9 d left torn).cells)) []:=by
 refine cofF Go.Proofs.Tryz.func129 hr129 hl129 ?_
 have hs:=Zb4 hd
 have dd:=decide_eq_true hd
 obtain ⟨g1,g2,g3,g4,g5⟩:=id hd
 simp -implicitDefEqProofs only [go_sem,ZT.cells,dd]
 repeat ((first|refine rq ?_|refine wl ?_|refine gl ?_|refine ZBc d hs (by simp -implicitDefEqProofs only [go_sem,ZT.cells_eq];first|done|rfl) ?_|refine ZC4 d hs (by simp -implicitDefEqProofs only [go_sem,ZT.cells_eq];first|done|rfl) ?_|fail);simp -implicitDefEqProofs only [go_sem,ZT.cells,dd])
 refine ZY (α:=Nat) (fun i=>⟨[(1,.d (.sl (bls left))),(2,.d (.int .i64 torn)),(6,.ref 0 0),(7,.ref 3 0),(18,.d (.sl (Zae d.Zm))),(19,.d (.int .i64 d.Zm.length)),(20,.d (.int .i64 i))],[(0,some (.box [.own 1 0 0,.own 2 0 0])),(1,some (.arr 1 [])),(2,some (.arr 2 [])),(3,some (.box [.own 4 0 d.Zv.length,.own 5 0 d.Zm.length])),(4,some (.arr 1 (strs (Zff d left torn i)))),(5,some (.arr 2 (Zae d.Zm)))]⟩)
  (fun i=>i≤d.Zm.length) (fun i=>d.Zm.length - i) 0 rfl (Nat.zero_le _) ?_
 rintro i i1
 have hlen:=Zsq (d:=d) (left:=left) (torn:=torn) (i:=i)
 simp -implicitDefEqProofs only [go_sem]
 refine fork (fun h5=>?_) (fun h5=>?_)
 ·obtain ⟨q,hq⟩:=Z3 h5
  obtain ⟨q1,q2⟩:=g5 q (List.mem_of_getElem? hq)
  have hst:=Zpv (left:=left) (torn:=torn) hq
  have hcast:((q.Zu.toNat:Nat):Int)=q.Zu:=by have:=q1.1;omega
  have hlt:q.Zu.toNat<(Zff d left torn i).length:=by have:=q1.1;have:=q1.2;omega
  obtain ⟨z,hz⟩:=Z3 (l:=Zff d left torn i) (i:=q.Zu.toNat) (by omega)
  have hi1:IntKind.i64.wrap ((i:Int)+1)=((i+1:Nat):Int):=ZV (by simp only [LEN];omega)
  by_cases hlf:left.length≤i
  ·have d1:decide ((left.length:Int)≤(i:Int))=true:=decide_eq_true (by omega)
   have:left.getD i false=false:=by rw [List.getD_eq_getElem?_getD,List.getElem?_eq_none hlf];rfl
   rw [if_neg (by rw [this];simp)] at hst
   simp -implicitDefEqProofs only [go_sem,d1,ZaY hq]
   repeat ((first|refine rq ?_|refine wl ?_|refine gl ?_|fail);simp -implicitDefEqProofs only [go_sem,d1,ZaY hq])
   rw [hi1,←hst]
   exact ZP (i+1) rfl (by omega) (by omega)
  ·have d1:decide ((left.length:Int)≤(i:Int))=false:=decide_eq_false (by omega)
   obtain ⟨b,hb⟩:=Z3 (l:=left) (i:=i) (by omega)
   have hgb:left.getD i false=b:=by rw [List.getD_eq_getElem?_getD,hb];rfl
   rw [hgb] at hst
   cases b with
   |false=>
    rw [if_neg (by simp)] at hst
    simp -implicitDefEqProofs only [go_sem,d1,ZfX hb,ZaY hq]
    repeat ((first|refine rq ?_|refine wl ?_|refine gl ?_|fail);simp -implicitDefEqProofs only [go_sem,d1,ZfX hb,ZaY hq])
    rw [hi1,←hst]
    exact ZP (i+1) rfl (by omega) (by omega)
   |true=>
    rw [if_pos rfl] at hst
    by_cases ht:(i:Int)=torn
    ·have dt:=decide_eq_true ht
     rw [dt] at hst
     have e2:IntKind.i64.wrap (Int.tdiv (q.ZC.length:Int) 2)=((q.ZC.length / 2:Nat):Int):=by rw [Int.tdiv_eq_ediv_of_nonneg (by omega),Zad (by omega) (by omega)];omega
     have e3:Zjg q.ZC true=q.ZC.take (q.ZC.length / 2):=by simp [Zjg]
     rw [e3] at hst
     simp -implicitDefEqProofs only [go_sem,d1,ZfX hb,ZaY hq,dt,e2,ZM hz,ZfP]
     repeat ((first|refine rq ?_|refine wl ?_|refine gl ?_|fail);simp -implicitDefEqProofs only [go_sem,d1,ZfX hb,ZaY hq,dt,e2,ZM hz,ZfP])
     rw [hi1,←hst]
     exact ZP (i+1) rfl (by omega) (by omega)
    ·have dt:=decide_eq_false ht
     rw [dt] at hst
     have e3:Zjg q.ZC false=q.ZC:=by simp [Zjg]
     rw [e3] at hst
     simp -implicitDefEqProofs only [go_sem,d1,ZfX hb,ZaY hq,dt,ZM hz,ZfP]
     repeat ((first|refine rq ?_|refine wl ?_|refine gl ?_|fail);simp -implicitDefEqProofs only [go_sem,d1,ZfX hb,ZaY hq,dt,ZM hz,ZfP])
     rw [hi1,←hst]
     exact ZP (i+1) rfl (by omega) (by omega)
 ·have hall:=Zsr (left:=left) (torn:=torn) hd (i:=i) (by omega)
  rw [hall]
  have ht:(strs (Zff d left torn i)).take d.Zv.length=strs (Zff d left torn i):=by rw [←hlen,Zdz]
  simp -implicitDefEqProofs only [go_sem,ht,ZT.cells]
  repeat ((first|refine rq ?_|refine wl ?_|refine gl ?_|fail);simp -implicitDefEqProofs only [go_sem,ht,ZT.cells])
  try rfl
def ZDe (d:ZT) (hd:Za5 d) (left:List Bool) (hl:left.length≤1048576) (torn:Int):=kf (ZC6 d hd left hl torn)
end Go.Rx
namespace Go.Rx
open Go
attribute [local irreducible] Req Way WayG Sel Z2 ZQ Zaz cVC Zai ZaO
@[go_sem] def hr55:ZW:=hh [[0],[1,2,3],[1,2,3],[1,2,3],[1,2,3,5,6],[1,2,3],[1,2,3,5],[1,2,3,5,6,7],[1,2,3],[2,3,5,7]]
@[go_sem] def hl55:ZW:=hh []
attribute [go_sem] Go.Proofs.Tryz.results55
theorem ZDg (t:GTxn) (h1:Za8 t.Za) (h2:smallW t.ZK) (h3:t.ZK.Zg.length+t.ZK.ZH.length≤1000) (h4:(ZaM t).length≤1000):ZQ Go.Proofs.Tryz.prog 55 [.d (.agg t.cells)] [] [.dead] (Zh4 t) []:=by
 refine cofF Go.Proofs.Tryz.func55 hr55 hl55 ?_
 unfold Zh4 Zev
 simp -implicitDefEqProofs only [go_sem,GTxn.cells]
 refine ZDq t (by simp -implicitDefEqProofs only [go_sem,GTxn.cells_eq];first|done|rfl) ?_
 by_cases hs:Zgx t
 ·have ds:=decide_eq_true hs
  rw [if_pos hs]
  simp -implicitDefEqProofs only [go_sem,ds,ZT.cells,ZX.cells]
  repeat ((first|refine rq ?_|refine wl ?_|refine gl ?_|refine ZCO t.ZK.Zc h2.1 (by simp -implicitDefEqProofs only [go_sem,ZT.cells_eq];first|done|rfl) ?_|refine ZBY t.Za (ZaK h1) (by simp -implicitDefEqProofs only [go_sem,ZX.cells_eq];first|done|rfl) ?_|fail);simp -implicitDefEqProofs only [go_sem,ds,ZT.cells,ZX.cells])
  try rfl
 ·have ds:=decide_eq_false hs
  rw [if_neg hs]
  cases hm:Zav (Zbg t) with
  |none=>
   have hn:Zbf t= .tup [.d (.agg [.int .i64 0,.int .i64 0,.int .i64 0,.sl []]),.d (.bool false)]:=by rw [Zbf,Zdb,hm];rfl
   simp -implicitDefEqProofs only [go_sem,ds,hn,ZT.cells,ZX.cells]
   repeat ((first|refine rq ?_|refine wl ?_|refine gl ?_|refine ZC0 t h1 h2 h3 h4 (by simp -implicitDefEqProofs only [go_sem,GTxn.cells_eq];first|done|rfl) ?_|refine ZBc t.ZK.Zc h2.1 (by simp -implicitDefEqProofs only [go_sem,ZT.cells_eq];first|done|rfl) ?_|refine ZBY t.Za (ZaK h1) (by simp -implicitDefEqProofs only [go_sem,ZX.cells_eq];first|done|rfl) ?_|fail);simp -implicitDefEqProofs only [go_sem,ds,hn,ZT.cells,ZX.cells])
   try rfl
  |some text=>
   have hn:Zbf t= .tup [.d (.agg [.int .i64 (Zbg t).ZF,.int .i64 (Zbg t).Zy,.int .i64 (Zbg t).Zs,.sl (Z9 (Zbg t).Ze)]),.d (.bool true)]:=by rw [Zbf,Zdb,hm];rfl
   obtain ⟨m1,m2,m3⟩:=ZdC hm
   have htx0:0≤ZaW t:=by have:=ZgE h1.1.1;have:=h1.1.1;omega
   obtain ⟨n,htn⟩:=Int.eq_ofNat_of_zero_le htx0
   have hnn:n≤1048576:=by have:=m1.1.1.2;have e:(Zbg t).ZF=ZaW t:=rfl;omega
   have htm:ZaW t%2=((n%2:Nat):Int):=by rw [htn];rfl
   have hmw:=ZC1 t (Zbg t) text n htn hnn hm h2.1
   have htx:(Zbg t).ZF=ZaW t:=rfl
   simp -implicitDefEqProofs only [go_sem,ds,hn,ZT.cells]
   repeat ((first|refine rq ?_|refine wl ?_|refine gl ?_|refine ZC0 t h1 h2 h3 h4 (by simp -implicitDefEqProofs only [go_sem,GTxn.cells_eq];first|done|rfl) ?_|fail);simp -implicitDefEqProofs only [go_sem,ds,hn,ZT.cells])
   refine Zd3 (xs:=[.agg t.cells,.agg (Zbg t).cells]) hmw (by simp -implicitDefEqProofs only [go_sem,GTxn.cells_eq,ZX.cells_eq];first|done|rfl) rfl ?_
   rw [htm]
   cases hw:Zak (Za6 t.ZK.Zc) ((n%2:Nat):Int) text with
   |none=>
    simp only [Option.map_none,Option.isSome_none]
    rw [wrF,hw,Option.getD_none]
    simp -implicitDefEqProofs only [go_sem,ZT.cells,ZX.cells]
    repeat ((first|refine rq ?_|refine wl ?_|refine gl ?_|refine ZBc t.ZK.Zc h2.1 (by simp -implicitDefEqProofs only [go_sem,ZT.cells_eq];first|done|rfl) ?_|refine ZBY t.Za (ZaK h1) (by simp -implicitDefEqProofs only [go_sem,ZX.cells_eq];first|done|rfl) ?_|fail);simp -implicitDefEqProofs only [go_sem,ZT.cells,ZX.cells])
    try rfl
   |some d=>
    have hd:=Zcv hw
    rw [ZlR hw]
    simp only [Option.isSome_some]
    simp -implicitDefEqProofs only [go_sem,ZT.cells,ZX.cells]
    repeat ((first|refine rq ?_|refine wl ?_|refine gl ?_|refine ZCO d (Zb4 hd.1) (by simp -implicitDefEqProofs only [go_sem,ZT.cells_eq];first|done|rfl) ?_|fail);simp -implicitDefEqProofs only [go_sem,ZT.cells,ZX.cells])
    try rw [hw]
    try rfl
def ki_Commit (t:GTxn) (h1:Za8 t.Za) (h2:smallW t.ZK) (h3:t.ZK.Zg.length+t.ZK.ZH.length≤1000) (h4:(ZaM t).length≤1000):=kf (ZDg t h1 h2 h3 h4)
@[go_sem] def hr59:ZW:=hh [[0,1,2,3],[1,2,3,4,8],[1,2,3,4,8,9,10],[2,3,4,8],[2,3,4,8,9],[2,3,8,11]]
@[go_sem] def hl59:ZW:=hh []
attribute [go_sem] Go.Proofs.Tryz.results59
theorem ZDf (t:GTxn) (stage:Int) (left:List Bool) (torn:Int) (h1:Za8 t.Za) (h2:smallW t.ZK) (h3:t.ZK.Zg.length+t.ZK.ZH.length≤1000) (h4:(ZaM t).length≤1000) (hd:Za5 t.ZK.Zc) (hl:left.length≤1048576):ZQ Go.Proofs.Tryz.prog 59 [.d (.agg t.cells),.d (.int .i64 stage),.d (.sl (bls left)),.d (.int .i64 torn)] [] [.dead,.dead,.dead,.dead] (.d (.agg (cutD t stage left torn).cells)) []:=by
 refine cofF Go.Proofs.Tryz.func59 hr59 hl59 ?_
 unfold cutD
 simp -implicitDefEqProofs only [go_sem,GTxn.cells]
 refine ZC0 t h1 h2 h3 h4 (by simp -implicitDefEqProofs only [go_sem,GTxn.cells_eq];first|done|rfl) ?_
 cases hm:Zav (Zbg t) with
 |none=>
  have hn:Zbf t= .tup [.d (.agg [.int .i64 0,.int .i64 0,.int .i64 0,.sl []]),.d (.bool false)]:=by rw [Zbf,Zdb,hm];rfl
  rw [if_pos (.inr (.inl rfl)),hn]
  simp -implicitDefEqProofs only [go_sem,ZT.cells]
  repeat ((first|refine rq ?_|refine wl ?_|refine gl ?_|refine ZDe t.ZK.Zc hd left hl torn (by simp -implicitDefEqProofs only [go_sem,ZT.cells_eq];first|done|rfl) ?_|fail);simp -implicitDefEqProofs only [go_sem,ZT.cells])
  try rfl
 |some text=>
  have hn:Zbf t= .tup [.d (.agg [.int .i64 (Zbg t).ZF,.int .i64 (Zbg t).Zy,.int .i64 (Zbg t).Zs,.sl (Z9 (Zbg t).Ze)]),.d (.bool true)]:=by rw [Zbf,Zdb,hm];rfl
  obtain ⟨m1,m2,m3⟩:=ZdC hm
  have htx0:0≤ZaW t:=by have:=ZgE h1.1.1;have:=h1.1.1;omega
  obtain ⟨n,htn⟩:=Int.eq_ofNat_of_zero_le htx0
  have hnn:n≤1048576:=by have:=m1.1.1.2;have e:(Zbg t).ZF=ZaW t:=rfl;omega
  have htm:ZaW t%2=((n%2:Nat):Int):=by rw [htn];rfl
  have hmw:=ZC1 t (Zbg t) text n htn hnn hm h2.1
  by_cases hs1:Zgx t
  ·have ds:=decide_eq_true hs1
   rw [if_pos (.inl hs1),hn]
   simp -implicitDefEqProofs only [go_sem,ds,ZT.cells]
   repeat ((first|refine rq ?_|refine wl ?_|refine gl ?_|refine ZDq t (by simp -implicitDefEqProofs only [go_sem,GTxn.cells_eq];first|done|rfl) ?_|refine ZDe t.ZK.Zc hd left hl torn (by simp -implicitDefEqProofs only [go_sem,ZT.cells_eq];first|done|rfl) ?_|fail);simp -implicitDefEqProofs only [go_sem,ds,ZT.cells])
   try rfl
  ·have ds:=decide_eq_false hs1
   by_cases h0:stage=0
   ·have d0:=decide_eq_true h0
    rw [if_pos (.inr (.inr h0)),hn]
    simp -implicitDefEqProofs only [go_sem,ds,d0,ZT.cells]
    repeat ((first|refine rq ?_|refine wl ?_|refine gl ?_|refine ZDq t (by simp -implicitDefEqProofs only [go_sem,GTxn.cells_eq];first|done|rfl) ?_|refine ZDe t.ZK.Zc hd left hl torn (by simp -implicitDefEqProofs only [go_sem,ZT.cells_eq];first|done|rfl) ?_|fail);simp -implicitDefEqProofs only [go_sem,ds,d0,ZT.cells])
    try rfl
   ·have d0:=decide_eq_false h0
    rw [if_neg (fun h=>h.elim hs1 fun h=>h.elim (fun h=>nomatch h) h0),hn,Option.getD_some]
    simp -implicitDefEqProofs only [go_sem,ds,d0]
    repeat ((first|refine rq ?_|refine wl ?_|refine gl ?_|refine ZDq t (by simp -implicitDefEqProofs only [go_sem,GTxn.cells_eq];first|done|rfl) ?_|fail);simp -implicitDefEqProofs only [go_sem,ds,d0])
    refine Zd3 (xs:=[.agg t.cells,.agg (Zbg t).cells]) hmw (by simp -implicitDefEqProofs only [go_sem,GTxn.cells_eq,ZX.cells_eq];first|done|rfl) rfl ?_
    rw [htm]
    cases hw:Zak (Za6 t.ZK.Zc) ((n%2:Nat):Int) text with
    |none=>
     rw [wrF,hw,Option.getD_none]
     simp only [Option.isSome_none,Option.getD_none]
     simp -implicitDefEqProofs only [go_sem,ZT.cells]
     repeat ((first|refine rq ?_|refine wl ?_|refine gl ?_|refine ZDe (Za6 t.ZK.Zc) (Zg0 hd) left hl torn (by simp -implicitDefEqProofs only [go_sem,ZT.cells_eq];first|done|rfl) ?_|fail);simp -implicitDefEqProofs only [go_sem,ZT.cells])
     try rfl
    |some d=>
     rw [ZlR hw]
     simp only [Option.isSome_some]
     simp -implicitDefEqProofs only [go_sem,ZT.cells]
     repeat ((first|refine rq ?_|refine wl ?_|refine gl ?_|refine ZDe d (Zcv hw).1 left hl torn (by simp -implicitDefEqProofs only [go_sem,ZT.cells_eq];first|done|rfl) ?_|fail);simp -implicitDefEqProofs only [go_sem,ZT.cells])
     try rfl
def ZDh (t:GTxn) (stage:Int) (left:List Bool) (torn:Int) (h1:Za8 t.Za) (h2:smallW t.ZK) (h3:t.ZK.Zg.length+t.ZK.ZH.length≤1000) (h4:(ZaM t).length≤1000) (hd:Za5 t.ZK.Zc) (hl:left.length≤1048576):=kf (ZDf t stage left torn h1 h2 h3 h4 hd hl)
end Go.Rx
