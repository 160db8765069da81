/-
  Part P5: lemmas on an evaluator over plain data of the model's code, plain laws on lists and numbers, or contracts of functions of the program; each lemma names its conditions.
-/
import Derived.Test.YtflimjgjgligeaaGreatSP4
import Derived.Test.YtflimjgjgligeaaGreatSE6

set_option linter.unusedSimpArgs false
set_option linter.unusedVariables false
namespace Go.Rx
open Go
def getW (d:ZT) (k:Nat) (root:Int) (key:Key):Option Key:=if root=0 then none else getK k (rdW d) root key
def idR (s:ZN) (id:Int):Int:=idxF (fun r:Zaf=>decide (r.Zh=id)) s.Zx
def ZcY (s:ZN) (id:Int):ZN×Int:=
 if ¬(1≤id∧id≤9) then (s,4) else if 0≤idR s id then (s,1) else if 3≤s.Zx.length then (s,3) else (Zce s id,0)
def ZdF (s:ZN) (id:Int):ZN×Int:=
 if idR s id<0 then (s,2) else ({s with Zx:=s.Zx.take (idR s id).toNat++s.Zx.drop ((idR s id).toNat+1)},0)
def Zc0 (s:ZN) (id:Int) (key:Key):Key×Int:=
 if idR s id<0 then ([],2) else match getW s.Zc 8 (s.Zx.getD (idR s id).toNat Zaf.zero).Zp.Zy key with
  |none=>([],2)
  |some v=>(v,0)
def Zb3 (s:ZN):ZN×Int:=if s.ZL=true then (s,1) else (Zgv s,0)
def Zje (s:ZN):Option GTxn→ZN×Int
 |none=>({s with Zd:=true},3)
 |some t=>({s with ZG:=t},0)
def ZdP (s:ZN) (key val:Key):ZN×Int:=
 if s.ZL=false then (s,2) else if 24<key.length∨24<val.length then (s,4) else Zje s (putT s.ZG key val)
def ZcT (s:ZN) (key:Key):ZN×Int:=
 if s.ZL=false then (s,2) else match getW s.ZG.ZK.Zc 8 s.ZG.Zy key with
  |none=>(s,2)
  |some _=>Zje s (ZgR s.ZG key)
def Zba (s:ZN):ZN×Int:=if s.ZL=false then (s,2) else (ZoU s (Za6 s.ZG.ZK.Zc) s.Zp,0)
def Zd7 (s:ZN):ZN×Int:=
 if s.ZL=false then (s,2) else match Zev s.ZG with
  |none=>((Zba s).1,3)
  |some (d,m)=>if s.Zd=true then ((Zba s).1,3) else (ZoU s d m,0)
def Zmb (t:GTxn):Option GTxn:=if (Zc1 t.ZK.Zc t.Zy).bad=true then none else ZwO t (Zc1 t.ZK.Zc t.Zy).pairs (Zc1 t.ZK.Zc t.Zy).pages
def ZoX (s:ZN):ZN×Int:=if s.ZL=false then (s,2) else Zje s (Zmb s.ZG)
def ZrP (d:ZT):Option ZN:=(Zf7 d).bind fun m=>if Za5 d then some (Zdr d m) else none
def allS (d:ZT) (root:Int):List ZR:=if (Zc1 d root).bad=true then [] else (Zc1 d root).pairs
def Zvn (w:Zac) (e:Z6):Zac:=
 let d:=if w.ZB.ZL=true then cutD w.ZB.ZG e.ZA e.Zo e.ZE else Zb9 w.ZB.Zc e.Zo e.ZE
 let s:=(ZrP d).getD {ZN.zero with Zc:=d}
 {w with ZB:=s,Zz:=[],Zq:=allS s.Zc s.Zp.Zy,Zs:=[]}
def setW (w:Zac) (r:ZN×Int) (f:Zac→Zac):Zac×Int×Key:=(if r.2=0 then f {w with ZB:=r.1} else {w with ZB:=r.1},r.2,[])
def doF (w:Zac) (e:Z6):Zac×Int×Key:=
 if e.Zl=1 then setW w (Zb3 w.ZB) fun w=> {w with Zs:=w.Zq}
 else if e.Zl=2 then setW w (ZdP w.ZB e.Zi e.ZI) fun w=> {w with Zs:=mput w.Zs e.Zi e.ZI}
 else if e.Zl=3 then setW w (ZcT w.ZB e.Zi) fun w=> {w with Zs:=ZeI w.Zs e.Zi}
 else if e.Zl=4 then setW w (Zd7 w.ZB) fun w=> {w with Zq:=w.Zs}
 else if e.Zl=5 then setW w (Zba w.ZB) id
 else if e.Zl=6 then setW w (ZcY w.ZB e.Zh) fun w=> {w with Zz:=w.Zz++[⟨e.Zh,w.Zq⟩]}
 else if e.Zl=7 then (w,(Zc0 w.ZB e.Zh e.Zi).2,(Zc0 w.ZB e.Zh e.Zi).1)
 else if e.Zl=8 then ({w with ZB:=(ZdF w.ZB e.Zh).1,Zz:=w.Zz.filter fun s=> !decide (s.Zh=e.Zh)},(ZdF w.ZB e.Zh).2,[])
 else if e.Zl=9 then setW w (ZoX w.ZB) id
 else if e.Zl=10 then (Zvn w e,0,[])
 else (w,0,[])
def Zl0 (w:Zac) (e:Z6):Zac:= {(doF w e).1 with Zb:=w.Zb++[(doF w e).2.1],ZD:=w.ZD++[(doF w e).2.2]}
structure WInv (w:Zac) (pg:List Int) (view:Int→List ZR):Prop where
 store:Zap w.ZB w.Zq pg w.Zs view
 seen:∀s∈w.Zz,s.Zw=view s.Zh∧s.Zw.length≤131072
 ids:(w.Zz.map (·.Zh)).Perm (w.ZB.Zx.map (·.Zh))
 next:w.Zs.length≤131072
theorem ZgY {d:ZT} {root:Int} {ps:List ZR} {pg:List Int} (h:Zdp (rdW d) root ps pg):ps.length≤131072∧pg.length≤131072:=by
 obtain ⟨m,c,e⟩:=ZiY h;unfold Zc1 at e;by_cases hr:root=0
 ·rw [if_pos hr] at e;have e1:([]:List ZR)=ps:=congrArg Al.pairs e;have e2:([]:List Int)=pg:=congrArg Al.pages e;rw [←e1,←e2];simp
 ·rw [if_neg hr] at e;have e1:=ZbW (d:=d) (f:=8) (page:=root) (low:=[]) (high:=[]) (has:=false) (a:=Al.new);have e2:=ZbX (d:=d) (f:=8) (page:=root) (low:=[]) (high:=[]) (has:=false) (a:=Al.new);rw [e] at e1 e2;simp [Al.new] at e1 e2;omega
theorem Zp5 {d:ZT} {root:Int} {ps:List ZR} {pg:List Int} (h:Zdp (rdW d) root ps pg):allS d root=ps:=by
 obtain ⟨m,c,e⟩:=ZiY h;unfold allS;rw [e];rfl
theorem ZfV {d:ZT} {m:ZX} {ps:List ZR} {pg:List Int} (h:ZaX d m ps pg):ZrP d=some (Zdr d m):=by
 unfold ZrP;rw [Zon h,Option.bind_some,if_pos h.disk]
theorem ZqO {d0:ZT} {m:ZX} {oldest:Int} {pg0:List Int} {t:GTxn} {ps:List ZR} {pg:List Int} (h:ZcB d0 m oldest pg0 t ps pg):Zmb t=ZwO t ps pg:=by
 obtain ⟨k,c,e⟩:=ZiY h.txs.tree;unfold Zmb;rw [e];rfl
theorem Zq4 {s:ZN} {id:Int}:idR s id<0↔∀r∈s.Zx,r.Zh≠id:=by
 have h:=Zw7 (g:=fun r:Zaf=>decide (r.Zh=id)) (l:=s.Zx);have e:idR s id<0↔¬0≤idR s id:=by omega
 rw [e];unfold idR;constructor
 ·intro h1 r hr he;rw [decide_eq_false h1] at h;have h2:s.Zx.any (fun r=>decide (r.Zh=id))=true:=List.any_eq_true.2 ⟨r,hr,by simpa using he⟩;rw [←h] at h2;cases h2
 ·intro h1 h2;rw [decide_eq_true h2] at h;obtain ⟨r,hr,he⟩:=List.any_eq_true.1 h.symm;exact h1 r hr (of_decide_eq_true he)
theorem Zmi {s:ZN} {id:Int} (h:0≤idR s id):∃(k:Nat) (r:Zaf),idR s id=k∧s.Zx[k]? =some r∧r.Zh=id∧∀q∈s.Zx.take k,q.Zh≠id:=by
 unfold idR idxF at h ⊢;cases hf:s.Zx.findIdx? (fun r:Zaf=>decide (r.Zh=id)) with
 |none=>rw [hf] at h;simp at h
 |some k=>
  obtain ⟨h1,h2,h3⟩:=List.findIdx?_eq_some_iff_getElem.1 hf;refine ⟨k,_,rfl,List.getElem?_eq_getElem h1,of_decide_eq_true h2,fun q hq=>?_⟩;obtain ⟨j,hj,rfl⟩:=List.mem_take_iff_getElem.1 hq;have:=h3 j (by omega);simpa using this
theorem ZwI {w:Zac} {r:ZN×Int} {f:Zac→Zac} {pg:List Int} {view:Int→List ZR} (h:r.2≠0→WInv {w with ZB:=r.1} pg view)
  (h2:r.2=0→∃pg view,WInv (f {w with ZB:=r.1}) pg view):∃pg view,WInv (setW w r f).1 pg view:=by
 unfold setW;by_cases e:r.2=0
 ·rw [if_pos e];exact h2 e
 ·rw [if_neg e];exact ⟨_,_,h e⟩
theorem ZtN {s:ZN} {ps:List ZR} {pg:List Int} {next:List ZR} {view:Int→List ZR} (h:Zap s ps pg next view) (hw:s.ZL=true):next.length≤131072:=by
 obtain ⟨o,pgn,_,_,h3⟩:=h.txn hw;exact (ZgY h3.txs.tree).1
theorem Zu8 {l:List Zaf} {k:Nat} {r:Zaf} (hn:(l.map (·.Zh)).Nodup) (hk:l[k]? =some r):((l.take k++l.drop (k+1)).map (·.Zh)).Perm ((l.map (·.Zh)).filter fun i=> !decide (i=r.Zh)):=by
 have e:l=l.take k++r::l.drop (k+1):=by
  rw [←ZbU hk,List.take_append_drop]
 rw [e] at hn;rw [List.map_append,List.map_cons] at hn;have hn2:=List.nodup_append.1 hn;have hc:=List.nodup_cons.1 hn2.2.1
 conv=>rhs;rw [e]
 rw [List.map_append,List.map_append,List.map_cons,List.filter_append,List.filter_cons_of_neg (by simp)];rw [List.filter_eq_self.2,List.filter_eq_self.2]
 ·intro i hi;have:i≠r.Zh:=fun he=>hc.1 (he▸hi)
  simpa using this
 ·intro i hi;have:i≠r.Zh:=hn2.2.2 i hi r.Zh (by simp);simpa using this
theorem ZvZ {l:List Int} (h:l.Pairwise (·< ·)):l.Nodup:=h.imp fun h=>by omega
theorem Zzm {w:Zac} {pg:List Int} {view:Int→List ZR} {e:Z6} (h:WInv w pg view):∃pg view,WInv (doF w e).1 pg view:=by
 have keep:WInv {w with ZB:=w.ZB} pg view:=h;unfold doF;by_cases k1:e.Zl=1
 ·rw [if_pos k1];refine ZwI (pg:=pg) (view:=view) (fun hr=>?_) (fun hr=>⟨pg,view,?_⟩)
  ·unfold Zb3 at hr ⊢;by_cases hw:w.ZB.ZL=true
   ·rw [if_pos hw];exact h
   ·rw [if_neg hw] at hr;exact absurd rfl hr
  ·unfold Zb3 at hr ⊢;by_cases hw:w.ZB.ZL=true
   ·rw [if_pos hw] at hr;cases hr
   ·rw [if_neg hw];exact ⟨ZkB h.store,h.seen,h.ids,(ZgY h.store.disk.tree).1⟩
 rw [if_neg k1];by_cases k2:e.Zl=2
 ·rw [if_pos k2];have main:∀o,(∀t,o=some t→putT w.ZB.ZG e.Zi e.ZI=some t)→w.ZB.ZL=true→∃pg view,WInv (setW w (Zje w.ZB o) fun w=> {w with Zs:=mput w.Zs e.Zi e.ZI}).1 pg view:=by
   intro o ho hw;cases o with
   |none=>exact ⟨pg,view,Zh2 h.store hw,h.seen,h.ids,h.next⟩
   |some t=>
    have h2:=ZmE h.store hw (ho t rfl);exact ⟨pg,view,h2,h.seen,h.ids,ZtN h2 hw⟩
  unfold ZdP;by_cases hw:w.ZB.ZL=false
  ·rw [if_pos hw];exact ⟨pg,view,h⟩
  ·rw [if_neg hw];by_cases hl:24<e.Zi.length∨24<e.ZI.length
   ·rw [if_pos hl];exact ⟨pg,view,h⟩
   ·rw [if_neg hl];exact main _ (fun t ht=>ht) (by simpa using hw)
 rw [if_neg k2];by_cases k3:e.Zl=3
 ·rw [if_pos k3];unfold ZcT;by_cases hw:w.ZB.ZL=false
  ·rw [if_pos hw];exact ⟨pg,view,h⟩
  ·rw [if_neg hw];have hw:w.ZB.ZL=true:=by simpa using hw
   cases hg:getW w.ZB.ZG.ZK.Zc 8 w.ZB.ZG.Zy e.Zi with
   |none=>exact ⟨pg,view,h⟩
   |some v=>
    simp only;cases hd:ZgR w.ZB.ZG e.Zi with
    |none=>exact ⟨pg,view,Zh2 h.store hw,h.seen,h.ids,h.next⟩
    |some t=>
     have h2:=ZlQ h.store hw hd;exact ⟨pg,view,h2,h.seen,h.ids,ZtN h2 hw⟩
 rw [if_neg k3];by_cases k4:e.Zl=4
 ·rw [if_pos k4];unfold Zd7;by_cases hw:w.ZB.ZL=false
  ·rw [if_pos hw];exact ⟨pg,view,h⟩
  ·rw [if_neg hw];have hw:w.ZB.ZL=true:=by simpa using hw
   have hstop:WInv {w with ZB:=(Zba w.ZB).1} pg view:=by
    unfold Zba;rw [if_neg (by rw [hw];simp)];exact ⟨Zg2 h.store hw,h.seen,h.ids,h.next⟩
   cases hc:Zev w.ZB.ZG with
   |none=>exact ⟨pg,view,hstop⟩
   |some r=>
    obtain ⟨d,m⟩:=r;simp only;by_cases hf:w.ZB.Zd=true
    ·rw [if_pos hf];exact ⟨pg,view,hstop⟩
    ·rw [if_neg hf];obtain ⟨pg',h2⟩:=Zn3 (next':=w.Zs) h.store hw hc;exact ⟨pg',view,h2,h.seen,h.ids,h.next⟩
 rw [if_neg k4];by_cases k5:e.Zl=5
 ·rw [if_pos k5];unfold Zba;by_cases hw:w.ZB.ZL=false
  ·rw [if_pos hw];exact ⟨pg,view,h⟩
  ·rw [if_neg hw];have hw:w.ZB.ZL=true:=by simpa using hw
   exact ⟨pg,view,Zg2 h.store hw,h.seen,h.ids,h.next⟩
 rw [if_neg k5];by_cases k6:e.Zl=6
 ·rw [if_pos k6];unfold ZcY;by_cases h1:¬(1≤e.Zh∧e.Zh≤9)
  ·rw [if_pos h1];exact ⟨pg,view,h⟩
  rw [if_neg h1];by_cases h2:0≤idR w.ZB e.Zh
  ·rw [if_pos h2];exact ⟨pg,view,h⟩
  rw [if_neg h2];by_cases h3:3≤w.ZB.Zx.length
  ·rw [if_pos h3];exact ⟨pg,view,h⟩
  rw [if_neg h3];have hno:=Zq4.1 (show idR w.ZB e.Zh<0 by omega);have hs:=Zl1 h.store (Classical.not_not.1 h1) hno (by omega);have hnew:∀s∈w.Zz,s.Zh≠e.Zh:=fun s hs he=>by
   have:e.Zh∈w.ZB.Zx.map (·.Zh):=h.ids.subset (he▸List.mem_map.2 ⟨s,hs,rfl⟩);obtain ⟨r,hr,he2⟩:=List.mem_map.1 this;exact hno r hr he2
  refine ⟨pg,fun i=>if i=e.Zh then w.Zq else view i,hs,fun s hs=>?_,?_,h.next⟩
  ·have hs:s∈w.Zz++[⟨e.Zh,w.Zq⟩]:=hs;simp only [List.mem_append,List.mem_singleton] at hs;rcases hs with hs|rfl
   ·rw [if_neg (hnew s hs)];exact h.seen s hs
   ·exact ⟨by simp,(ZgY h.store.disk.tree).1⟩
  ·show ((w.Zz++[(⟨e.Zh,w.Zq⟩:ZbV)]).map (·.Zh)).Perm ((Zce w.ZB e.Zh).Zx.map (·.Zh));simp only [List.map_append,List.map_cons,List.map_nil,Zce];refine List.Perm.trans (List.perm_append_comm) ?_;refine List.Perm.trans (List.Perm.cons _ h.ids) ?_;refine List.Perm.trans ?_ List.perm_middle.symm;refine List.Perm.cons _ ?_;rw [←List.map_append];refine List.Perm.map _ ?_;have:w.ZB.Zx.filter (fun r=>decide (e.Zh<r.Zh))=w.ZB.Zx.filter (fun r=> !decide (r.Zh<e.Zh)):=List.filter_congr fun r hr=>by
    have:=hno r hr;by_cases hlt:e.Zh<r.Zh
    ·simp [hlt];omega
    ·simp [hlt];omega
   rw [this];exact (List.filter_append_perm _ _).symm
 rw [if_neg k6];by_cases k7:e.Zl=7
 ·rw [if_pos k7];exact ⟨pg,view,h⟩
 rw [if_neg k7];by_cases k8:e.Zl=8
 ·rw [if_pos k8];have hn:=ZvZ h.store.ids;have hfil:((w.Zz.filter fun s=> !decide (s.Zh=e.Zh)).map (·.Zh))=(w.Zz.map (·.Zh)).filter fun i=> !decide (i=e.Zh):=by
   rw [List.filter_map];rfl
  unfold ZdF;by_cases h2:idR w.ZB e.Zh<0
  ·rw [if_pos h2];refine ⟨pg,view,h.store,fun s hs=>h.seen s (List.mem_filter.1 hs).1,?_,h.next⟩;simp only;rw [hfil];refine (h.ids.filter _).trans ?_;rw [List.filter_eq_self.2];intro i hi;obtain ⟨r,hr,rfl⟩:=List.mem_map.1 hi;have:=Zq4.1 h2 r hr;simpa using this
  ·rw [if_neg h2];obtain ⟨k,r,hk,hr,hid,_⟩:=Zmi (show 0≤idR w.ZB e.Zh by omega);rw [hk,Int.toNat_natCast];refine ⟨pg,view,Zpw h.store ?_,fun s hs=>h.seen s (List.mem_filter.1 hs).1,?_,h.next⟩
   ·have:=(List.Sublist.refl (w.ZB.Zx.take k)).append (List.drop_sublist 1 (w.ZB.Zx.drop k))
    rwa [List.take_append_drop,List.drop_drop] at this
   ·simp only;rw [hfil];refine (h.ids.filter _).trans ?_;have:=(Zu8 hn hr).symm;rw [hid] at this;exact this
 rw [if_neg k8];by_cases k9:e.Zl=9
 ·rw [if_pos k9];unfold ZoX;by_cases hw:w.ZB.ZL=false
  ·rw [if_pos hw];exact ⟨pg,view,h⟩
  ·rw [if_neg hw];have hw:w.ZB.ZL=true:=by simpa using hw
   cases hd:Zmb w.ZB.ZG with
   |none=>exact ⟨pg,view,Zh2 h.store hw,h.seen,h.ids,h.next⟩
   |some t=>
    obtain ⟨o,pgn,g1,g2,g3⟩:=h.store.txn hw;rw [ZqO g3] at hd;obtain ⟨pg',g4⟩:=ZwN g3 hd;refine ⟨pg,view,⟨h.store.disk,h.store.ids,h.store.idr,h.store.few,h.store.rds,fun e=>?_,fun _=>⟨o,pg',g1,g2,g4⟩⟩,h.seen,h.ids,h.next⟩;have e:w.ZB.ZL=false:=e;rw [hw] at e;cases e
 rw [if_neg k9];by_cases k10:e.Zl=10
 ·rw [if_pos k10];simp only;unfold Zvn;have key:∃m ps pg',ZaX (if w.ZB.ZL=true then cutD w.ZB.ZG e.ZA e.Zo e.ZE else Zb9 w.ZB.Zc e.Zo e.ZE) m ps pg':=by
   by_cases hw:w.ZB.ZL=true
   ·rw [if_pos hw];obtain ⟨o,pgn,g1,g2,g3⟩:=h.store.txn hw;rcases (Zvs (stage:=e.ZA) (left:=e.Zo) (torn:=e.ZE) h.store.disk g3).2 with h4|⟨_,_,h4⟩
    ·exact ⟨_,_,_,h4⟩
    ·exact ⟨_,_,_,h4⟩
   ·rw [if_neg hw];exact ⟨_,_,_,Zrh h.store.disk⟩
  obtain ⟨m,ps,pg',hd⟩:=key;generalize (if w.ZB.ZL=true then cutD w.ZB.ZG e.ZA e.Zo e.ZE else Zb9 w.ZB.Zc e.Zo e.ZE)=d at hd ⊢;simp only;rw [ZfV hd,Option.getD_some];refine ⟨pg',view,?_,by simp,by simp [Zdr],by simp⟩;have:allS (Zdr d m).Zc (Zdr d m).Zp.Zy=ps:=Zp5 hd.tree;simp only;rw [this];exact ZqP hd
 rw [if_neg k10];exact ⟨pg,view,h⟩
theorem ZmS {w:Zac} {pg:List Int} {view:Int→List ZR} {e:Z6} (h:WInv w pg view):∃pg view,WInv (Zl0 w e) pg view:=by
 obtain ⟨pg',view',h2⟩:=Zzm (e:=e) h;exact ⟨pg',view',h2.store,h2.seen,h2.ids,h2.next⟩
end Go.Rx
namespace Go.Rx
open Go
def Zvb (m:ZX):List UInt8:=nB m.ZF++nB m.Zy++nB m.Zs++varB m.Ze.length
def Zhe (m:ZX) (i:Nat):List UInt8:=Zvb m++(m.Ze.take i).flatMap Zhr
def Zhp (f:Zau) (k:Nat):List UInt8:=nB f.ZF++varB f.Zv.length++(f.Zv.take k).flatMap nB
theorem ZrZ {m:ZX}:Zhe m 0=Zvb m:=by simp [Zhe]
theorem ZuA {m:ZX}:Zhe m m.Ze.length=ZdD m:=by rw [Zhe,List.take_length];rfl
theorem Zla {m:ZX} {i:Nat} {f:Zau} (h:m.Ze[i]? =some f):Zhe m (i+1)=Zhe m i++Zhr f:=by
 rw [Zhe,Z7 h,List.flatMap_append];simp [Zhe]
theorem Zsm {f:Zau}:Zhp f 0=nB f.ZF++varB f.Zv.length:=by simp [Zhp]
theorem Zvf {f:Zau}:Zhp f f.Zv.length=Zhr f:=by rw [Zhp,List.take_length];rfl
theorem Zsn {f:Zau} {k:Nat} {p:Int} (h:f.Zv[k]? =some p):Zhp f (k+1)=Zhp f k++nB p:=by
 rw [Zhp,Z7 h,List.flatMap_append];simp [Zhp]
theorem Zht {α:Type} {g:α→List UInt8} {l:List α} {i:Nat}:((l.take i).flatMap g).length≤(l.flatMap g).length:=by
 have e:l.flatMap g=(l.take i).flatMap g++(l.drop i).flatMap g:=by rw [←List.flatMap_append,List.take_append_drop]
 rw [e,List.length_append];omega
theorem Znk {m:ZX} {i:Nat} (h:Za8 m):(Zhe m i).length≤20000:=by
 have h1:=ZjH h;have h2:= @Zht _ Zhr m.Ze i;unfold ZdD at h1;unfold Zhe Zvb;simp only [List.length_append] at h1 ⊢;omega
theorem Zve {f:Zau} {k:Nat}:(Zhp f k).length≤(Zhr f).length:=by
 have h2:= @Zht _ nB f.Zv k;unfold Zhp Zhr;simp only [List.length_append];omega
def Zhd:Option ZX→V
 |some m=> .tup [.d (.agg m.cells),.d (.bool true)]
 |none=> .tup [.d (.agg ZX.zero.cells),.d (.bool false)]
def Zbo (m:ZX):V:= .tup [.d (.str ((Zav m).getD [])),.d (.bool (Zav m).isSome)]
theorem ZaK {m:ZX} (h:Za8 m):ZaD m:=by
 refine ⟨by have:=h.1.2.2.2;omega,fun f hf=>?_⟩;have:=(h.2.1 f hf).2.1.2;show f.Zv.length≤1048576;omega
end Go.Rx
namespace Go.Rx
open Go
def Zes:ZX:=⟨0,0,2,[]⟩
def fmtD (n:Nat):ZT:=⟨(List.replicate n []).set 0 (Zds Zes),[]⟩
theorem Zmf:Za8 Zes:=by decide
theorem ZjI:(Zds Zes).length=8:=by
 rw [Zds,ZiS];have h:∀n,n≤127→varB n=[UInt8.ofNat n]:=fun n hn=>by rw [varB,if_pos (by omega)]
 simp [ZdD,nB,Zes,h]
theorem Zlb:Zav Zes=some (Zds Zes):=by rw [Zav,if_pos ⟨Zmf,by rw [ZjI];omega⟩]
theorem Zhs {n:Nat}:(fmtD n).Zv.length=n:=by simp [fmtD]
theorem Zvj {n:Nat} (h:4≤n∧n≤40):Za5 (fmtD n):=by
 refine ⟨by rw [Zhs];exact h.1,by rw [Zhs];exact h.2,by simp [fmtD],fun s hs=>?_,by simp [fmtD]⟩;rcases List.mem_or_eq_of_mem_set hs with hs|rfl
 ·have:=(List.mem_replicate.1 hs).2;subst this;simp
 ·rw [ZjI];omega
theorem Zvi {n:Nat} (h:4≤n∧n≤40):ZaX (fmtD n) Zes [] []:=by
 have e0:ZU (fmtD n) 0=Zds Zes:=by
  unfold ZU;rw [if_pos (by unfold Za9;rw [Zhs];omega)];obtain ⟨k,rfl⟩:∃k,n=k+1:=⟨n - 1,by omega⟩;simp [fmtD,Zbi,List.replicate_succ]
 have e1:ZU (fmtD n) 1=[]:=by
  unfold ZU;rw [if_pos (by unfold Za9;rw [Zhs];omega)];obtain ⟨k,rfl⟩:∃k,n=k+2:=⟨n - 2,by omega⟩;simp [fmtD,Zbi,List.replicate_succ]
 refine ⟨Zvj h,rfl,Zmf,by rw [Zhs];have:Zes.Zs=2:=rfl;omega,?_,fun m' hm=>?_,.inl ⟨rfl,rfl,rfl⟩,fun q=>?_,by simp⟩
 ·show ZaL (ZU (fmtD n) 0)=_;rw [e0];exact Zfo.2 Zlb
 ·have hm:ZaL (ZU (fmtD n) 1)=some m':=hm;rw [e1,Zm5] at hm;cases hm
 ·have:Zes.Zs=2:=rfl;have h2:Z5 Zes.Ze=[]:=rfl;rw [this,h2];simp
def newW (n:Nat):Zac:=⟨Zdr (fmtD n) Zes,[],[],[],[],[]⟩
theorem ZqU {n:Nat} (h:4≤n∧n≤40):WInv (newW n) [] fun _=> []:=⟨ZqP (Zvi h),by simp [newW],by simp [newW,Zdr],by simp [newW]⟩
def ZhY:List Int:=[2,2,2,2,2,3,3,4,5,6,7,7,8,9]
def valL:List Key:=[[],[118],[118,97,108],[111,116,104,101,114]]
def evt (k id:Int) (key val:Key):Z6:=⟨k,id,key,val,0,[],-1⟩
def Zt5:ZbV:=⟨0,[]⟩
def ZwM:ZR:=⟨[],[]⟩
def Zh9 (id:Int) (c:Cur) (w:Zac):Z6×Cur:=
 if 0<w.Zs.length then
  if (c.key.2.once 3).1=false then (evt 3 id (w.Zs.getD ((c.key.2.once 3).2.below w.Zs.length).1.toNat ZwM).Zi [],((c.key.2.once 3).2.below w.Zs.length).2)
  else (evt 3 id c.key.1 [],(c.key.2.once 3).2)
 else (evt 3 id c.key.1 [],c.key.2)
def Zh8 (s:ZbV) (key:Key) (c:Cur):Z6×Cur:=
 if 0<s.Zw.length then (evt 7 s.Zh (s.Zw.getD (c.below s.Zw.length).1.toNat ZwM).Zi [],(c.below s.Zw.length).2) else (evt 7 s.Zh key [],c)
def ZlL (id:Int) (c:Cur) (w:Zac):Z6×Cur:=
 if 0<w.Zz.length then
  if (c.key.2.once 4).1=false then Zh8 (w.Zz.getD ((c.key.2.once 4).2.below w.Zz.length).1.toNat Zt5) c.key.1 ((c.key.2.once 4).2.below w.Zz.length).2
  else (evt 7 id c.key.1 [],(c.key.2.once 4).2)
 else (evt 7 id c.key.1 [],c.key.2)
def Zoq (k id:Int) (c:Cur) (w:Zac):Z6×Cur:=
 if k=2 then (evt 2 id c.key.1 (c.key.2.pick valL).1,(c.key.2.pick valL).2)
 else if k=3 then Zh9 id c w
 else if k=7 then ZlL id c w
 else if k=8 then (evt 8 (if 0<w.Zz.length then (w.Zz.getD 0 Zt5).Zh else id) [] [],c)
 else (evt k id [] [],c)
def Zsd (c:Cur) (w:Zac):Int:=if w.ZB.ZL=false∧((c.pickI ZhY).1=2∨(c.pickI ZhY).1=3∨(c.pickI ZhY).1=4) then 1 else (c.pickI ZhY).1
def Ze5 (c:Cur) (w:Zac):Z6×Cur:=
 let b:=(c.pickI ZhY).2.below 4
 if Zsd c w=5 then Zoq (if (b.2.once 3).1=false then 4 else 5) (1+b.1) (b.2.once 3).2 w else Zoq (Zsd c w) (1+b.1) b.2 w
theorem Zs7 {s:ZbV} {key:Key} {c:Cur} (h:c.ok):(Zh8 s key c).2.ok:=by
 unfold Zh8;split
 ·exact Cur.below_ok h
 ·exact h
theorem Zrq {k id:Int} {c:Cur} {w:Zac} (h:c.ok):(Zoq k id c w).2.ok:=by
 unfold Zoq Zh9 ZlL;repeat' split
 all_goals first
  |exact Cur.pick_ok (Cur.key_ok h)
  |exact Cur.below_ok (Cur.once_ok (Cur.key_ok h))
  |exact Cur.once_ok (Cur.key_ok h)
  |exact Cur.key_ok h
  |exact Zs7 (Cur.below_ok (Cur.once_ok (Cur.key_ok h)))
  |exact h
theorem ZqT {c:Cur} {w:Zac} (h:c.ok):(Ze5 c w).2.ok:=by
 unfold Ze5;simp only;split
 ·exact Zrq (Cur.once_ok (Cur.below_ok (Cur.pickI_ok h)))
 ·exact Zrq (Cur.below_ok (Cur.pickI_ok h))
def ZcZ:Nat→Nat→Cur→Zac→Zac×Cur
 |0,_,c,w=>(w,c)
 |f+1,i,c,w=>if (i:Int)<6+(c.below 24).1 then ZcZ f (i+1) (Ze5 (c.below 24).2 w).2 (Zl0 w (Ze5 (c.below 24).2 w).1) else (w,(c.below 24).2)
def Zbr (c:Cur):Zac×Cur:=ZcZ 30 0 (c.below 21).2 (newW (20+(c.below 21).1).toNat)
theorem Zjo:∀ {f i:Nat} {c:Cur} {w:Zac} {pg:List Int} {view:Int→List ZR},WInv w pg view→∃pg view,WInv (ZcZ f i c w).1 pg view
 |0,_,_,_,pg,view,h=>⟨pg,view,h⟩
 |f+1,i,c,w,pg,view,h=>by
  rw [ZcZ];split
  ·obtain ⟨pg',view',h2⟩:=ZmS (e:=(Ze5 (c.below 24).2 w).1) h;exact Zjo h2
  ·exact ⟨pg,view,h⟩
theorem ZkU:∀ {f i:Nat} {c:Cur} {w:Zac},c.ok→(ZcZ f i c w).2.ok
 |0,_,_,_,h=>h
 |f+1,i,c,w,h=>by
  rw [ZcZ];split
  ·exact ZkU (ZqT (Cur.below_ok h))
  ·exact Cur.below_ok h
theorem ZrH {c:Cur}:∃pg view,WInv (Zbr c).1 pg view:=by
 have hr:=Cur.below_range (c:=c) (n:=21) (by decide);exact Zjo (ZqU (by omega))
theorem Zt1 {c:Cur} (h:c.ok):(Zbr c).2.ok:=ZkU (Cur.below_ok h)
def ZtY (code:List UInt8):ZN:=(Zbr (Cur.new code)).1.ZB
def ZtH:List Key:=[[],[118],[110,101,119]]
def ZeV (c:Cur) (t:GTxn):GTxn×Cur:=
 if (c.once 4).1=true then ((ZgR t (c.once 4).2.key.1).getD t,(c.once 4).2.key.2)
 else ((putT t (c.once 4).2.key.1 ((c.once 4).2.key.2.pick ZtH).1).getD t,((c.once 4).2.key.2.pick ZtH).2)
def Zky:Nat→Nat→Cur→GTxn→GTxn×Cur
 |0,_,c,t=>(t,c)
 |f+1,i,c,t=>if (i:Int)<(c.below 6).1 then Zky f (i+1) (ZeV (c.below 6).2 t).2 (ZeV (c.below 6).2 t).1 else (t,(c.below 6).2)
def txnD (c:Cur):GTxn×Cur:=Zky 6 0 (Zbr c).2 (ZlK (Zbr c).1.ZB.Zc (Zbr c).1.ZB.Zp (Zco (Zbr c).1.ZB))
theorem Zry {c:Cur} {t:GTxn} (h:c.ok):(ZeV c t).2.ok:=by
 unfold ZeV;split
 ·exact Cur.key_ok (Cur.once_ok h)
 ·exact Cur.pick_ok (Cur.key_ok (Cur.once_ok h))
theorem ZoH {d0:ZT} {m:ZX} {oldest:Int} {pg0:List Int} {t:GTxn} {ps:List ZR} {pg:List Int} {c:Cur} (h:ZcB d0 m oldest pg0 t ps pg):∃ps pg,ZcB d0 m oldest pg0 (ZeV c t).1 ps pg:=by
 unfold ZeV;split
 ·cases hd:ZgR t (c.once 4).2.key.1 with
  |none=>exact ⟨ps,pg,h⟩
  |some t'=>
   obtain ⟨_,pg',h2⟩:=Zn5 h hd;exact ⟨_,pg',h2⟩
 ·cases hd:putT t (c.once 4).2.key.1 ((c.once 4).2.key.2.pick ZtH).1 with
  |none=>exact ⟨ps,pg,h⟩
  |some t'=>
   obtain ⟨pg',h2⟩:=ZqJ h hd;exact ⟨_,pg',h2⟩
end Go.Rx
namespace Go.Rx
open Go
theorem Zj6 {left:List Bool} {torn:Int} {x:GPut}:∀ {l:List GPut} {i:Nat} {ps:List Key},Zdx left torn i ps (l++[x])=
  if left.getD (i+l.length) false=true then (Zdx left torn i ps l).set x.Zu.toNat (Zjg x.ZC (decide (((i+l.length:Nat):Int)=torn))) else Zdx left torn i ps l
 |[],i,ps=>by simp [Zdx]
 |y::l,i,ps=>by
  rw [List.cons_append,Zdx,Zj6,Zdx];have:i+1+l.length=i+(y::l).length:=by simp;omega
  rw [this]
def Zff (d:ZT) (left:List Bool) (torn:Int) (i:Nat):List Key:=Zdx left torn 0 d.Zv (d.Zm.take i)
theorem Zsq {d:ZT} {left:List Bool} {torn:Int} {i:Nat}:(Zff d left torn i).length=d.Zv.length:=Zh0
theorem Zpv {d:ZT} {left:List Bool} {torn:Int} {i:Nat} {q:GPut} (h:d.Zm[i]? =some q):
  Zff d left torn (i+1)=if left.getD i false=true then (Zff d left torn i).set q.Zu.toNat (Zjg q.ZC (decide ((i:Int)=torn))) else Zff d left torn i:=by
 have hi:=(List.getElem?_eq_some_iff.1 h).1;have e:(d.Zm.take i).length=i:=by rw [List.length_take];omega
 unfold Zff;rw [Z7 h,Zj6,e,Nat.zero_add]
theorem Zsr {d:ZT} {left:List Bool} {torn:Int} (h:Za5 d) {i:Nat} (hi:d.Zm.length≤i):Zb9 d left torn=⟨Zff d left torn i,[]⟩:=by
 rw [Zb9,if_pos h,Zff,List.take_of_length_le hi]
theorem Zwx {n:Nat} (h:4≤n):Za6 ⟨List.replicate n [],[⟨0,Zds Zes⟩]⟩=fmtD n:=by
 simp only [Za6,fmtD,List.length_replicate,Zee,List.foldl_cons,List.foldl_nil];rw [if_pos ⟨Int.le_refl _,by omega⟩];rfl
theorem ZnR {n:Nat} (h:4≤n∧n≤40):Za5 ⟨List.replicate n [],[]⟩:=
 ⟨by simpa using h.1,by simpa using h.2,by simp,fun s hs=>by rw [(List.mem_replicate.1 hs).2];simp,by simp⟩
theorem Zvh {n:Nat} (h:4≤n∧n≤40):Zak ⟨List.replicate n [],[]⟩ 0 (Zds Zes)=some ⟨List.replicate n [],[⟨0,Zds Zes⟩]⟩:=by
 rw [Zak,if_pos ⟨ZnR h,by unfold Za9;simp only [List.length_replicate];omega,by rw [ZjI];omega,by simp⟩];rfl
def Znc (d:ZT):V:= .tup [.d (.agg ((ZrP d).getD ZN.zero).cells),.d (.bool (ZrP d).isSome)]
def wrF (d:ZT) (p:Int) (t:Key):ZT:=(Zak d p t).getD d
theorem ZlR {d d':ZT} {p:Int} {t:Key} (h:Zak d p t=some d'):wrF d p t=d':=by rw [wrF,h];rfl
end Go.Rx
namespace Go.Rx
theorem Zch:Zhd none= .tup [.d (.agg [.int .i64 0,.int .i64 0,.int .i64 0,.sl []]),.d (.bool false)]:=rfl
theorem Zcg {m:ZX}:Zhd (some m)= .tup [.d (.agg [.int .i64 m.ZF,.int .i64 m.Zy,.int .i64 m.Zs,.sl (Z9 m.Ze)]),.d (.bool true)]:=rfl
end Go.Rx
namespace Go.Rx
open Go
def Zfj (m:ZX) (o:Int) (i:Nat):List Int:=((m.Ze.take i).filter fun f=>decide (f.ZF≤o)).flatMap (·.Zv)
theorem Zrw {m:ZX} {o:Int} {i:Nat} {f:Zau} (h:m.Ze[i]? =some f):Zfj m o (i+1)=Zfj m o i++(if f.ZF≤o then f.Zv else []):=by
 unfold Zfj;rw [Z7 h,List.filter_append,List.flatMap_append];by_cases e:f.ZF≤o<;>simp [e]
theorem ZmH {m:ZX} {o:Int} {i:Nat}:(Zfj m o i).length≤(Z5 m.Ze).length:=by
 have h:∀ {a b:List Zau},a.Sublist b→(a.flatMap (·.Zv)).length≤(b.flatMap (·.Zv)).length:=by
  intro a b h;induction h with
  |slnil=>simp
  |cons x _ ih=>simp only [List.flatMap_cons,List.length_append];omega
  |cons_cons x _ ih=>simp only [List.flatMap_cons,List.length_append];omega
 have h2:(m.Ze.take i).Sublist m.Ze:=List.take_sublist i _;exact h ((List.filter_sublist (p:=fun f:Zau=>decide (f.ZF≤o)) (l:=m.Ze.take i)).trans h2)
theorem ZtK {d:ZT} {m:ZX} {o:Int}:ZaP (Zfj m o m.Ze.length)=(Zdq d m o).ZH:=by
 rw [Zfj,List.take_length];rfl
def ZiJ (fresh l:List Int):List Int:=l.filter fun p=> !decide (p∈fresh)
theorem Zut {fresh l:List Int}:(ZiJ fresh l).length≤l.length:=List.length_filter_le _ _
theorem ZrT {fresh l:List Int} {k:Nat} {p:Int} (h:l[k]? =some p):ZiJ fresh (l.take (k+1))=ZiJ fresh (l.take k)++(if p∈fresh then [] else [p]):=by
 unfold ZiJ;rw [Z7 h,List.filter_append];by_cases e:p∈fresh<;>simp [e]
theorem ZuX {fresh:List Int} {l:List Zau} {i:Nat} {f:Zau} (h:l[i]? =some f):
  ZaB fresh (l.take (i+1))=ZaB fresh (l.take i)++(if 0<(ZiJ fresh f.Zv).length then [⟨f.ZF,ZiJ fresh f.Zv⟩] else []):=by
 unfold ZaB ZiJ;rw [Z7 h,List.map_append,List.filter_append];by_cases e:0<(f.Zv.filter fun p=> !decide (p∈fresh)).length
 ·rw [if_pos e];simp only [List.map_cons,List.map_nil];rw [List.filter_cons_of_pos (by simpa using e)];rfl
 ·rw [if_neg e];simp only [List.map_cons,List.map_nil];rw [List.filter_cons_of_neg (by simpa using e)];rfl
theorem Zw3 {fresh:List Int} {l:List Zau}:(ZaB fresh l).length≤l.length:=by
 unfold ZaB;refine Nat.le_trans (List.length_filter_le _ _) ?_;simp
theorem Zlo {fresh:List Int} {l:List Zau} {n:Nat} (h:∀f∈l,f.Zv.length≤n):∀f∈ZaB fresh l,f.Zv.length≤n:=by
 intro f hf;unfold ZaB at hf;obtain ⟨hf,_⟩:=List.mem_filter.1 hf;obtain ⟨g,hg,rfl⟩:=List.mem_map.1 hf;have:=h g hg;have h2:(g.Zv.filter fun p=> !decide (p∈fresh)).length≤g.Zv.length:=List.length_filter_le _ _;simp only;omega
def Zgb (t:GTxn) (i:Nat):List Int:=t.ZK.Zg++(t.ZK.ZH.take i).filter fun p=>decide (t.Za.Zs≤p)
theorem ZrW {t:GTxn} {i:Nat} {p:Int} (h:t.ZK.ZH[i]? =some p):Zgb t (i+1)=Zgb t i++(if t.Za.Zs≤p then [p] else []):=by
 unfold Zgb;rw [Z7 h,List.filter_append];by_cases e:t.Za.Zs≤p<;>simp [e]
theorem Znh {t:GTxn} {i:Nat}:(Zgb t i).length≤t.ZK.Zg.length+t.ZK.ZH.length:=by
 unfold Zgb;have:=List.length_filter_le (fun p=>decide (t.Za.Zs≤p)) (t.ZK.ZH.take i);simp only [List.length_take] at this;simp only [List.length_append];omega
theorem Zni {t:GTxn}:ZaP (Zgb t t.ZK.ZH.length)=ZaM t:=by rw [Zgb,List.take_length];rfl
theorem ZgE {t:GTxn} (h:0≤t.Za.ZF∧t.Za.ZF≤100000):ZaW t=t.Za.ZF+1:=by unfold ZaW;rw [if_pos (by omega)]
def txnV (o:Option GTxn) (t:GTxn):V:= .tup [.d (.agg (o.getD t).cells),.d (.bool o.isSome)]
def Zbf (t:GTxn):V:= .tup [.d (.agg ((Zdb t).getD ZX.zero).cells),.d (.bool (Zdb t).isSome)]
def Zh4 (t:GTxn):V:=match Zev t with
 |some (d,m)=> .tup [.d (.agg d.cells),.d (.agg m.cells),.d (.bool true)]
 |none=> .tup [.d (.agg t.ZK.Zc.cells),.d (.agg t.Za.cells),.d (.bool false)]
end Go.Rx
namespace Go.Rx
open Go
structure ZiE (s:ZN):Prop where
 disk:Zck s.Zc
 page:∀p,(ZU s.Zc p).length≤1048576
 mt:Za8 s.Zp
 few:s.Zx.length≤1000
 rds:∀r∈s.Zx,ZaD r.Zp
 base:ZaD s.ZG.Za
 work:smallW s.ZG.ZK
theorem ZaX.pages_len {d:ZT} {m:ZX} {ps:List ZR} {pg:List Int} (h:ZaX d m ps pg):pg.length≤1000:=by
 have h2:=h.tree.nodup;have h3:∀x∈pg,x∈(List.range 40).map fun i:Nat=>(i:Int):=fun x hx=>by
  have:=(h.part x).2 (.inl hx);have:=h.ok.1.2.1.2;exact List.mem_map.2 ⟨x.toNat,List.mem_range.2 (by omega),by omega⟩
 have:=ZoJ h2 h3;simp at this;omega
theorem Zb4 {d:ZT} (h:Za5 d):Zck d:=⟨by have:=h.2.1;omega,by have:=h.2.2.1;omega⟩
theorem Zbk {d:ZT} (h:Za5 d):∀p,(ZU d p).length≤1048576:=fun p=>by have:=Zay h p;omega
theorem Zap.small {s:ZN} {ps:List ZR} {pg:List Int} {next:List ZR} {view:Int→List ZR} (h:Zap s ps pg next view):ZiE s:=by
 refine ⟨Zb4 h.disk.disk,Zbk h.disk.disk,h.disk.ok,by have:=h.few;omega,fun r hr=>ZaK (h.rds r hr).1.1,?_,?_⟩
 ·cases hw:s.ZL with
  |false=>rw [(h.idle hw).1];exact ⟨by simp [GTxn.zero,ZX.zero],by simp [GTxn.zero,ZX.zero]⟩
  |true=>
   obtain ⟨o,pgn,_,_,h3⟩:=h.txn hw;rw [h3.base];exact ZaK h.disk.ok
 ·cases hw:s.ZL with
  |false=>rw [(h.idle hw).1];exact ⟨⟨by simp [GTxn.zero,ZS.zero,ZT.zero],by simp [GTxn.zero,ZS.zero,ZT.zero]⟩,by simp [GTxn.zero,ZS.zero],by simp [GTxn.zero,ZS.zero],by simp [GTxn.zero,ZS.zero]⟩
  |true=>
   obtain ⟨o,pgn,_,_,h3⟩:=h.txn hw;exact h3.txs.ok.smallW h.disk.pages_len
theorem Zo3 {m:ZX} (h:Za8 m):(Z5 m.Ze).length≤800:=by
 have h1:=Ze8 h.2.1;have h2:=h.1.2.2.2;omega
theorem Zjm {s:ZN} (h:ZiE s):(Z5 s.Zp.Ze).length≤1048576:=by
 have:=Zo3 h.mt;omega
def Zne (s:ZN) (i:Nat):Int:=Ze3 s.Zp.ZF (s.Zx.take i)
theorem ZrR {s:ZN} {i:Nat} {r:Zaf} (h:s.Zx[i]? =some r):Zne s (i+1)=if r.Zp.ZF<Zne s i then r.Zp.ZF else Zne s i:=by
 unfold Zne Ze3;rw [Z7 h,List.foldl_append];rfl
theorem Zup {s:ZN}:Zne s s.Zx.length=Zco s:=by unfold Zne Zco;rw [List.take_length]
def lowR (id:Int) (l:List Zaf):List Zaf:=l.filter fun r=>decide (r.Zh<id)
def Zsi (id:Int) (l:List Zaf):List Zaf:=l.filter fun r=>decide (id<r.Zh)
theorem ZuF {id:Int} {l:List Zaf} {i:Nat} {r:Zaf} (h:l[i]? =some r):lowR id (l.take (i+1))=lowR id (l.take i)++(if r.Zh<id then [r] else []):=by
 unfold lowR;rw [Z7 h,List.filter_append];by_cases e:r.Zh<id<;>simp [e]
theorem Zsh {id:Int} {l:List Zaf} {i:Nat} {r:Zaf} (h:l[i]? =some r):Zsi id (l.take (i+1))=Zsi id (l.take i)++(if id<r.Zh then [r] else []):=by
 unfold Zsi;rw [Z7 h,List.filter_append];by_cases e:id<r.Zh<;>simp [e]
theorem ZqV {id:Int} {l:List Zaf}:(lowR id l).length≤l.length:=List.length_filter_le _ _
theorem Zu9 {id:Int} {l:List Zaf}:(Zsi id l).length≤l.length:=List.length_filter_le _ _
def Zci (r:ZN×Int):V:= .tup [.d (.agg r.1.cells),.d (.int .i64 r.2)]
end Go.Rx
namespace Go.Rx
open Go
theorem ZaX.pages_few {d:ZT} {m:ZX} {ps:List ZR} {pg:List Int} (h:ZaX d m ps pg):pg.length≤40:=by
 have h2:=h.tree.nodup;have h3:∀x∈pg,x∈(List.range 40).map fun i:Nat=>(i:Int):=fun x hx=>by
  have:=(h.part x).2 (.inl hx);have:=h.ok.1.2.1.2;exact List.mem_map.2 ⟨x.toNat,List.mem_range.2 (by omega),by omega⟩
 have:=ZoJ h2 h3;simp at this;omega
theorem ZkQ {d0:ZT} {m:ZX} {oldest:Int} {pg0 pg:List Int} {ps0 ps:List ZR} {t:GTxn} (hD:ZaX d0 m ps0 pg0) (h:ZcB d0 m oldest pg0 t ps pg):
  Za8 t.Za∧t.ZK.Zg.length+t.ZK.ZH.length≤1000∧(ZaM t).length≤1000:=by
 have h1:=hD.pages_few;have h2:=h.txs.ok.goneLen;have h3:=h.txs.ok.few.2;have h4:=Znh (t:=t) (i:=t.ZK.ZH.length);rw [← @Zbw (Zgb t t.ZK.ZH.length),Zni] at h4;exact ⟨by rw [h.base];exact hD.ok,by omega,by omega⟩
def wdV (w:Zac):List V:=[.d (.sl (strs w.ZB.Zc.Zv)),.d (.sl (Zae w.ZB.Zc.Zm)),.d (.int .i64 w.ZB.Zp.ZF),.d (.int .i64 w.ZB.Zp.Zy),.d (.int .i64 w.ZB.Zp.Zs),.d (.sl (Z9 w.ZB.Zp.Ze)),.d (.sl (Zaa w.ZB.Zx)),
 .d (.int .i64 w.ZB.ZG.Za.ZF),.d (.int .i64 w.ZB.ZG.Za.Zy),.d (.int .i64 w.ZB.ZG.Za.Zs),.d (.sl (Z9 w.ZB.ZG.Za.Ze)),.d (.sl (strs w.ZB.ZG.ZK.Zc.Zv)),.d (.sl (Zae w.ZB.ZG.ZK.Zc.Zm)),.d (.int .i64 w.ZB.ZG.ZK.Zs),.d (.sl (ints w.ZB.ZG.ZK.ZH)),.d (.sl (ints w.ZB.ZG.ZK.Zg)),.d (.sl (ints w.ZB.ZG.ZK.Zf)),.d (.int .i64 w.ZB.ZG.Zy),.d (.bool w.ZB.ZL),.d (.bool w.ZB.Zd),
 .d (.sl (Zaj w.Zq)),.d (.sl (Zaj w.Zs)),.d (.sl (Zbh w.Zz)),.d (.sl (ints w.Zb)),.d (.sl (strs w.ZD))]
theorem ZZ {w:Zac}:wdV w=[.d (.sl (strs w.ZB.Zc.Zv)),.d (.sl (Zae w.ZB.Zc.Zm)),.d (.int .i64 w.ZB.Zp.ZF),.d (.int .i64 w.ZB.Zp.Zy),.d (.int .i64 w.ZB.Zp.Zs),.d (.sl (Z9 w.ZB.Zp.Ze)),.d (.sl (Zaa w.ZB.Zx)),
 .d (.int .i64 w.ZB.ZG.Za.ZF),.d (.int .i64 w.ZB.ZG.Za.Zy),.d (.int .i64 w.ZB.ZG.Za.Zs),.d (.sl (Z9 w.ZB.ZG.Za.Ze)),.d (.sl (strs w.ZB.ZG.ZK.Zc.Zv)),.d (.sl (Zae w.ZB.ZG.ZK.Zc.Zm)),.d (.int .i64 w.ZB.ZG.ZK.Zs),.d (.sl (ints w.ZB.ZG.ZK.ZH)),.d (.sl (ints w.ZB.ZG.ZK.Zg)),.d (.sl (ints w.ZB.ZG.ZK.Zf)),.d (.int .i64 w.ZB.ZG.Zy),.d (.bool w.ZB.ZL),.d (.bool w.ZB.Zd),
 .d (.sl (Zaj w.Zq)),.d (.sl (Zaj w.Zs)),.d (.sl (Zbh w.Zz)),.d (.sl (ints w.Zb)),.d (.sl (strs w.ZD))]:=rfl
def ZqN (d:ZT) (root:Int):V:=if (Zc1 d root).bad=true then .tup [.d (.sl []),.d (.bool false)] else .tup [.d (.sl (ints (ZaP (Zc1 d root).pages))),.d (.bool true)]
theorem ZuH {d:ZT} {root:Int}:(Zc1 d root).pages.length≤131072∧(Zc1 d root).pairs.length≤131072∧(Zc1 d root).deeps.length≤131072:=by
 unfold Zc1;by_cases hr:root=0
 ·rw [if_pos hr];simp [Al.new]
 ·rw [if_neg hr];have e1:=ZbW (d:=d) (f:=8) (page:=root) (low:=[]) (high:=[]) (has:=false) (a:=Al.new);have e2:=ZbX (d:=d) (f:=8) (page:=root) (low:=[]) (high:=[]) (has:=false) (a:=Al.new);have e3:=Zcd (d:=d) (f:=8) (page:=root) (low:=[]) (high:=[]) (has:=false) (a:=Al.new);have z1:Al.new.pairs.length=0:=rfl;have z2:Al.new.pages.length=0:=rfl;have z3:Al.new.deeps.length=0:=rfl;have z4:(2:Nat)*4 ^ 8=131072:=rfl;omega
def doV (r:Zac×Int×Key):V:= .tup [.d (.int .i64 r.2.1),.d (.str r.2.2)]
theorem WInv.model_len {w:Zac} {pg:List Int} {view:Int→List ZR} (h:WInv w pg view):w.Zq.length≤131072:=(ZgY h.store.disk.tree).1
theorem WInv.seens_few {w:Zac} {pg:List Int} {view:Int→List ZR} (h:WInv w pg view):w.Zz.length≤3:=by
 have:=h.ids.length_eq;simp only [List.length_map] at this;have:=h.store.few;omega
end Go.Rx
namespace Go.Rx
open Go
theorem Zt3 {w:Zac} {r:ZN×Int} {f:Zac→Zac} (hf:∀w,(f w).Zb=w.Zb∧(f w).ZD=w.ZD):(setW w r f).1.Zb=w.Zb∧(setW w r f).1.ZD=w.ZD:=by
 unfold setW;by_cases h:r.2=0
 ·rw [if_pos h];exact hf _
 ·rw [if_neg h];exact ⟨rfl,rfl⟩
theorem Zxs {w:Zac} {e:Z6}:(doF w e).1.Zb=w.Zb∧(doF w e).1.ZD=w.ZD:=by
 unfold doF;repeat' split
 all_goals first
  |exact Zt3 fun _=>⟨rfl,rfl⟩
  |exact ⟨rfl,rfl⟩
theorem ZoO {w:Zac} {e:Z6}:(Zl0 w e).Zb.length=w.Zb.length+1∧(Zl0 w e).ZD.length=w.ZD.length+1:=by simp [Zl0]
theorem ZjD {c:Cur} {w:Zac}:(Ze5 c w).1.ZA=0∧(Ze5 c w).1.Zo=[]∧(Ze5 c w).1.ZE= -1:=by
 unfold Ze5 Zoq Zh9 ZlL Zh8;simp only;repeat' split
 all_goals exact ⟨rfl,rfl,rfl⟩
theorem ZrV {c:Cur} {w:Zac}:1≤(Ze5 c w).1.Zl∧(Ze5 c w).1.Zl≤9:=by
 have hm:=Cur.pickI_mem (c:=c) (l:=ZhY) (by decide);have hk:1≤Zsd c w∧Zsd c w≤9:=by
  unfold Zsd;split
  ·decide
  ·have:∀x∈ZhY,1≤x∧x≤9:=by decide
   exact this _ hm
 have ha:∀(k id:Int) (c:Cur),1≤k∧k≤9→1≤(Zoq k id c w).1.Zl∧(Zoq k id c w).1.Zl≤9:=by
  intro k id c hk;unfold Zoq Zh9 ZlL Zh8;repeat' split
  all_goals first
   |exact hk
   |(simp only [evt];omega)
 unfold Ze5;simp only;split
 ·apply ha;split<;>decide
 ·exact ha _ _ _ hk
end Go.Rx
namespace Go.Rx
open Go
theorem ZrI {i:Nat} {c:Cur} {w:Zac} (h:(i:Int)<6+(c.below 24).1) (hi:i<30):ZcZ (30 - i) i c w=ZcZ (30 - (i+1)) (i+1) (Ze5 (c.below 24).2 w).2 (Zl0 w (Ze5 (c.below 24).2 w).1):=by
 obtain ⟨f,hf⟩:∃f,30 - i=f+1:=⟨29 - i,by omega⟩;have h2:30 - (i+1)=f:=by omega
 rw [hf,h2,ZcZ,if_pos h]
theorem ZmW {i:Nat} {c:Cur} {w:Zac} (h:¬(i:Int)<6+(c.below 24).1) (hi:i<30):ZcZ (30 - i) i c w=(w,(c.below 24).2):=by
 obtain ⟨f,hf⟩:∃f,30 - i=f+1:=⟨29 - i,by omega⟩;rw [hf,ZcZ,if_neg h]
theorem Zwt {i:Nat} {c:Cur} {t:GTxn} (h:(i:Int)<(c.below 6).1) (hi:i<6):Zky (6 - i) i c t=Zky (6 - (i+1)) (i+1) (ZeV (c.below 6).2 t).2 (ZeV (c.below 6).2 t).1:=by
 obtain ⟨f,hf⟩:∃f,6 - i=f+1:=⟨5 - i,by omega⟩;have h2:6 - (i+1)=f:=by omega
 rw [hf,h2,Zky,if_pos h]
theorem Zrz {i:Nat} {c:Cur} {t:GTxn} (h:¬(i:Int)<(c.below 6).1) (hi:i<6):Zky (6 - i) i c t=(t,(c.below 6).2):=by
 obtain ⟨f,hf⟩:∃f,6 - i=f+1:=⟨5 - i,by omega⟩;rw [hf,Zky,if_neg h]
def tdV (t:GTxn):List V:=[.d (.int .i64 t.Za.ZF),.d (.int .i64 t.Za.Zy),.d (.int .i64 t.Za.Zs),.d (.sl (Z9 t.Za.Ze)),.d (.sl (strs t.ZK.Zc.Zv)),.d (.sl (Zae t.ZK.Zc.Zm)),.d (.int .i64 t.ZK.Zs),.d (.sl (ints t.ZK.ZH)),.d (.sl (ints t.ZK.Zg)),.d (.sl (ints t.ZK.Zf)),.d (.int .i64 t.Zy)]
theorem Zie {t:GTxn}:tdV t=[.d (.int .i64 t.Za.ZF),.d (.int .i64 t.Za.Zy),.d (.int .i64 t.Za.Zs),.d (.sl (Z9 t.Za.Ze)),.d (.sl (strs t.ZK.Zc.Zv)),.d (.sl (Zae t.ZK.Zc.Zm)),.d (.int .i64 t.ZK.Zs),.d (.sl (ints t.ZK.ZH)),.d (.sl (ints t.ZK.Zg)),.d (.sl (ints t.ZK.Zf)),.d (.int .i64 t.Zy)]:=rfl
end Go.Rx
namespace Go.Rx
open Go
def sdV (s:ZN):List V:=[.d (.sl (strs s.Zc.Zv)),.d (.sl (Zae s.Zc.Zm)),.d (.int .i64 s.Zp.ZF),.d (.int .i64 s.Zp.Zy),.d (.int .i64 s.Zp.Zs),.d (.sl (Z9 s.Zp.Ze)),.d (.sl (Zaa s.Zx)),
 .d (.int .i64 s.ZG.Za.ZF),.d (.int .i64 s.ZG.Za.Zy),.d (.int .i64 s.ZG.Za.Zs),.d (.sl (Z9 s.ZG.Za.Ze)),.d (.sl (strs s.ZG.ZK.Zc.Zv)),.d (.sl (Zae s.ZG.ZK.Zc.Zm)),.d (.int .i64 s.ZG.ZK.Zs),.d (.sl (ints s.ZG.ZK.ZH)),.d (.sl (ints s.ZG.ZK.Zg)),.d (.sl (ints s.ZG.ZK.Zf)),.d (.int .i64 s.ZG.Zy),.d (.bool s.ZL),.d (.bool s.Zd)]
theorem ZkV {s:ZN}:sdV s=[.d (.sl (strs s.Zc.Zv)),.d (.sl (Zae s.Zc.Zm)),.d (.int .i64 s.Zp.ZF),.d (.int .i64 s.Zp.Zy),.d (.int .i64 s.Zp.Zs),.d (.sl (Z9 s.Zp.Ze)),.d (.sl (Zaa s.Zx)),
 .d (.int .i64 s.ZG.Za.ZF),.d (.int .i64 s.ZG.Za.Zy),.d (.int .i64 s.ZG.Za.Zs),.d (.sl (Z9 s.ZG.Za.Ze)),.d (.sl (strs s.ZG.ZK.Zc.Zv)),.d (.sl (Zae s.ZG.ZK.Zc.Zm)),.d (.int .i64 s.ZG.ZK.Zs),.d (.sl (ints s.ZG.ZK.ZH)),.d (.sl (ints s.ZG.ZK.Zg)),.d (.sl (ints s.ZG.ZK.Zf)),.d (.int .i64 s.ZG.Zy),.d (.bool s.ZL),.d (.bool s.Zd)]:=rfl
end Go.Rx
