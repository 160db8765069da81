/-
  Part P5: lemmas on an evaluator over plain data of the model's code, plain laws on lists and numbers, or contracts of functions of the program; each lemma names its conditions.
-/
import Derived.Test.YtmeinhaecplpkaaGreatRP4
import Derived.Test.YtmeinhaecplpkaaGreatRE6

set_option linter.unusedSimpArgs false
set_option linter.unusedVariables false
namespace Go.Rx
open Go
def getW (d:GDisk) (k:Nat) (root:Int) (key:Key):Option Key:=if root=0 then none else getK k (rdW d) root key
def idR (s:GStore) (id:Int):Int:=idxF (fun r:GReader=>decide (r.fId=id)) s.fReaders
def startReadF (s:GStore) (id:Int):GStore×Int:=
 if ¬(1≤id∧id≤9) then (s,4) else if 0≤idR s id then (s,1) else if 3≤s.fReaders.length then (s,3) else (startReadS s id,0)
def endReadF (s:GStore) (id:Int):GStore×Int:=
 if idR s id<0 then (s,2) else ({s with fReaders:=s.fReaders.take (idR s id).toNat++s.fReaders.drop ((idR s id).toNat+1)},0)
def readerGetF (s:GStore) (id:Int) (key:Key):Key×Int:=
 if idR s id<0 then ([],2) else match getW s.fDisk 8 (s.fReaders.getD (idR s id).toNat GReader.zero).fMeta.fRoot key with
  |none=>([],2)
  |some v=>(v,0)
def startWriteF (s:GStore):GStore×Int:=if s.fWriting=true then (s,1) else (startWriteS s,0)
def turnF (s:GStore):Option GTxn→GStore×Int
 |none=>({s with fFailed:=true},3)
 |some t=>({s with fTxn:=t},0)
def writePutF (s:GStore) (key val:Key):GStore×Int:=
 if s.fWriting=false then (s,2) else if 24<key.length∨24<val.length then (s,4) else turnF s (putT s.fTxn key val)
def writeDropF (s:GStore) (key:Key):GStore×Int:=
 if s.fWriting=false then (s,2) else match getW s.fTxn.fWork.fDisk 8 s.fTxn.fRoot key with
  |none=>(s,2)
  |some _=>turnF s (dropT s.fTxn key)
def stopWriteF (s:GStore):GStore×Int:=if s.fWriting=false then (s,2) else (restS s (syncD s.fTxn.fWork.fDisk) s.fMeta,0)
def endWriteF (s:GStore):GStore×Int:=
 if s.fWriting=false then (s,2) else match commitT s.fTxn with
  |none=>((stopWriteF s).1,3)
  |some (d,m)=>if s.fFailed=true then ((stopWriteF s).1,3) else (restS s d m,0)
def packT (t:GTxn):Option GTxn:=if (lookS t.fWork.fDisk t.fRoot).bad=true then none else packW t (lookS t.fWork.fDisk t.fRoot).pairs (lookS t.fWork.fDisk t.fRoot).pages
def packF (s:GStore):GStore×Int:=if s.fWriting=false then (s,2) else turnF s (packT s.fTxn)
def openF (d:GDisk):Option GStore:=(bestMeta d).bind fun m=>if diskOk d then some (openS d m) else none
def allS (d:GDisk) (root:Int):List GPair:=if (lookS d root).bad=true then [] else (lookS d root).pairs
def fallW (w:GWorld) (e:GEvent):GWorld:=
 let d:=if w.fStore.fWriting=true then cutD w.fStore.fTxn e.fStage e.fLeft e.fTorn else fallD w.fStore.fDisk e.fLeft e.fTorn
 let s:=(openF d).getD {GStore.zero with fDisk:=d}
 {w with fStore:=s,fSeens:=[],fModel:=allS s.fDisk s.fMeta.fRoot,fNext:=[]}
def setW (w:GWorld) (r:GStore×Int) (f:GWorld→GWorld):GWorld×Int×Key:=(if r.2=0 then f {w with fStore:=r.1} else {w with fStore:=r.1},r.2,[])
def doF (w:GWorld) (e:GEvent):GWorld×Int×Key:=
 if e.fKind=1 then setW w (startWriteF w.fStore) fun w=> {w with fNext:=w.fModel}
 else if e.fKind=2 then setW w (writePutF w.fStore e.fKey e.fVal) fun w=> {w with fNext:=mput w.fNext e.fKey e.fVal}
 else if e.fKind=3 then setW w (writeDropF w.fStore e.fKey) fun w=> {w with fNext:=mdrop w.fNext e.fKey}
 else if e.fKind=4 then setW w (endWriteF w.fStore) fun w=> {w with fModel:=w.fNext}
 else if e.fKind=5 then setW w (stopWriteF w.fStore) id
 else if e.fKind=6 then setW w (startReadF w.fStore e.fId) fun w=> {w with fSeens:=w.fSeens++[⟨e.fId,w.fModel⟩]}
 else if e.fKind=7 then (w,(readerGetF w.fStore e.fId e.fKey).2,(readerGetF w.fStore e.fId e.fKey).1)
 else if e.fKind=8 then ({w with fStore:=(endReadF w.fStore e.fId).1,fSeens:=w.fSeens.filter fun s=> !decide (s.fId=e.fId)},(endReadF w.fStore e.fId).2,[])
 else if e.fKind=9 then setW w (packF w.fStore) id
 else if e.fKind=10 then (fallW w e,0,[])
 else (w,0,[])
def stepF (w:GWorld) (e:GEvent):GWorld:= {(doF w e).1 with fCodes:=w.fCodes++[(doF w e).2.1],fTold:=w.fTold++[(doF w e).2.2]}
structure WInv (w:GWorld) (pg:List Int) (view:Int→List GPair):Prop where
 store:StoreInv w.fStore w.fModel pg w.fNext view
 seen:∀s∈w.fSeens,s.fPairs=view s.fId∧s.fPairs.length≤131072
 ids:(w.fSeens.map (·.fId)).Perm (w.fStore.fReaders.map (·.fId))
 next:w.fNext.length≤131072
theorem tree_len {d:GDisk} {root:Int} {ps:List GPair} {pg:List Int} (h:TreeAt (rdW d) root ps pg):ps.length≤131072∧pg.length≤131072:=by
 obtain ⟨m,c,e⟩:=lookS_at h
 unfold lookS at e
 by_cases hr:root=0
 ·rw [if_pos hr] at e
  have e1:([]:List GPair)=ps:=congrArg Al.pairs e
  have e2:([]:List Int)=pg:=congrArg Al.pages e
  rw [←e1,←e2];simp
 ·rw [if_neg hr] at e
  have e1:=walk_pairs (d:=d) (f:=8) (page:=root) (low:=[]) (high:=[]) (has:=false) (a:=Al.new)
  have e2:=walk_pages (d:=d) (f:=8) (page:=root) (low:=[]) (high:=[]) (has:=false) (a:=Al.new)
  rw [e] at e1 e2
  simp [Al.new] at e1 e2
  omega
theorem allS_at {d:GDisk} {root:Int} {ps:List GPair} {pg:List Int} (h:TreeAt (rdW d) root ps pg):allS d root=ps:=by
 obtain ⟨m,c,e⟩:=lookS_at h
 unfold allS;rw [e];rfl
theorem openF_at {d:GDisk} {m:GMeta} {ps:List GPair} {pg:List Int} (h:DiskInv d m ps pg):openF d=some (openS d m):=by
 unfold openF
 rw [bestMeta_inv h,Option.bind_some,if_pos h.disk]
theorem packT_at {d0:GDisk} {m:GMeta} {oldest:Int} {pg0:List Int} {t:GTxn} {ps:List GPair} {pg:List Int} (h:TxnInv d0 m oldest pg0 t ps pg):packT t=packW t ps pg:=by
 obtain ⟨k,c,e⟩:=lookS_at h.txs.tree
 unfold packT;rw [e];rfl
theorem idR_none {s:GStore} {id:Int}:idR s id<0↔∀r∈s.fReaders,r.fId≠id:=by
 have h:=idxF_any (g:=fun r:GReader=>decide (r.fId=id)) (l:=s.fReaders)
 have e:idR s id<0↔¬0≤idR s id:=by omega
 rw [e]
 unfold idR
 constructor
 ·intro h1 r hr he
  rw [decide_eq_false h1] at h
  have h2:s.fReaders.any (fun r=>decide (r.fId=id))=true:=List.any_eq_true.2 ⟨r,hr,by simpa using he⟩
  rw [←h] at h2;cases h2
 ·intro h1 h2
  rw [decide_eq_true h2] at h
  obtain ⟨r,hr,he⟩:=List.any_eq_true.1 h.symm
  exact h1 r hr (of_decide_eq_true he)
theorem idR_some {s:GStore} {id:Int} (h:0≤idR s id):∃(k:Nat) (r:GReader),idR s id=k∧s.fReaders[k]? =some r∧r.fId=id∧∀q∈s.fReaders.take k,q.fId≠id:=by
 unfold idR idxF at h ⊢
 cases hf:s.fReaders.findIdx? (fun r:GReader=>decide (r.fId=id)) with
 |none=>rw [hf] at h;simp at h
 |some k=>
  obtain ⟨h1,h2,h3⟩:=List.findIdx?_eq_some_iff_getElem.1 hf
  refine ⟨k,_,rfl,List.getElem?_eq_getElem h1,of_decide_eq_true h2,fun q hq=>?_⟩
  obtain ⟨j,hj,rfl⟩:=List.mem_take_iff_getElem.1 hq
  have:=h3 j (by omega)
  simpa using this
theorem setW_inv {w:GWorld} {r:GStore×Int} {f:GWorld→GWorld} {pg:List Int} {view:Int→List GPair} (h:r.2≠0→WInv {w with fStore:=r.1} pg view)
  (h2:r.2=0→∃pg view,WInv (f {w with fStore:=r.1}) pg view):∃pg view,WInv (setW w r f).1 pg view:=by
 unfold setW
 by_cases e:r.2=0
 ·rw [if_pos e];exact h2 e
 ·rw [if_neg e];exact ⟨_,_,h e⟩
theorem txn_len {s:GStore} {ps:List GPair} {pg:List Int} {next:List GPair} {view:Int→List GPair} (h:StoreInv s ps pg next view) (hw:s.fWriting=true):next.length≤131072:=by
 obtain ⟨o,pgn,_,_,h3⟩:=h.txn hw
 exact (tree_len h3.txs.tree).1
theorem ids_erase {l:List GReader} {k:Nat} {r:GReader} (hn:(l.map (·.fId)).Nodup) (hk:l[k]? =some r):((l.take k++l.drop (k+1)).map (·.fId)).Perm ((l.map (·.fId)).filter fun i=> !decide (i=r.fId)):=by
 have e:l=l.take k++r::l.drop (k+1):=by
  rw [←drop_cons hk,List.take_append_drop]
 rw [e] at hn
 rw [List.map_append,List.map_cons] at hn
 have hn2:=List.nodup_append.1 hn
 have hc:=List.nodup_cons.1 hn2.2.1
 conv=>rhs;rw [e]
 rw [List.map_append,List.map_append,List.map_cons,List.filter_append,List.filter_cons_of_neg (by simp)]
 rw [List.filter_eq_self.2,List.filter_eq_self.2]
 ·intro i hi
  have:i≠r.fId:=fun he=>hc.1 (he▸hi)
  simpa using this
 ·intro i hi
  have:i≠r.fId:=hn2.2.2 i hi r.fId (by simp)
  simpa using this
theorem asc_nodup {l:List Int} (h:l.Pairwise (·< ·)):l.Nodup:=h.imp fun h=>by omega
theorem doF_inv {w:GWorld} {pg:List Int} {view:Int→List GPair} {e:GEvent} (h:WInv w pg view):∃pg view,WInv (doF w e).1 pg view:=by
 have keep:WInv {w with fStore:=w.fStore} pg view:=h
 unfold doF
 by_cases k1:e.fKind=1
 ·rw [if_pos k1]
  refine setW_inv (pg:=pg) (view:=view) (fun hr=>?_) (fun hr=>⟨pg,view,?_⟩)
  ·unfold startWriteF at hr ⊢
   by_cases hw:w.fStore.fWriting=true
   ·rw [if_pos hw];exact h
   ·rw [if_neg hw] at hr;exact absurd rfl hr
  ·unfold startWriteF at hr ⊢
   by_cases hw:w.fStore.fWriting=true
   ·rw [if_pos hw] at hr;cases hr
   ·rw [if_neg hw]
    exact ⟨startWrite_inv h.store,h.seen,h.ids,(tree_len h.store.disk.tree).1⟩
 rw [if_neg k1]
 by_cases k2:e.fKind=2
 ·rw [if_pos k2]
  have main:∀o,(∀t,o=some t→putT w.fStore.fTxn e.fKey e.fVal=some t)→w.fStore.fWriting=true→∃pg view,WInv (setW w (turnF w.fStore o) fun w=> {w with fNext:=mput w.fNext e.fKey e.fVal}).1 pg view:=by
   intro o ho hw
   cases o with
   |none=>exact ⟨pg,view,failed_inv h.store hw,h.seen,h.ids,h.next⟩
   |some t=>
    have h2:=writePut_inv h.store hw (ho t rfl)
    exact ⟨pg,view,h2,h.seen,h.ids,txn_len h2 hw⟩
  unfold writePutF
  by_cases hw:w.fStore.fWriting=false
  ·rw [if_pos hw];exact ⟨pg,view,h⟩
  ·rw [if_neg hw]
   by_cases hl:24<e.fKey.length∨24<e.fVal.length
   ·rw [if_pos hl];exact ⟨pg,view,h⟩
   ·rw [if_neg hl];exact main _ (fun t ht=>ht) (by simpa using hw)
 rw [if_neg k2]
 by_cases k3:e.fKind=3
 ·rw [if_pos k3]
  unfold writeDropF
  by_cases hw:w.fStore.fWriting=false
  ·rw [if_pos hw];exact ⟨pg,view,h⟩
  ·rw [if_neg hw]
   have hw:w.fStore.fWriting=true:=by simpa using hw
   cases hg:getW w.fStore.fTxn.fWork.fDisk 8 w.fStore.fTxn.fRoot e.fKey with
   |none=>exact ⟨pg,view,h⟩
   |some v=>
    simp only
    cases hd:dropT w.fStore.fTxn e.fKey with
    |none=>exact ⟨pg,view,failed_inv h.store hw,h.seen,h.ids,h.next⟩
    |some t=>
     have h2:=writeDrop_inv h.store hw hd
     exact ⟨pg,view,h2,h.seen,h.ids,txn_len h2 hw⟩
 rw [if_neg k3]
 by_cases k4:e.fKind=4
 ·rw [if_pos k4]
  unfold endWriteF
  by_cases hw:w.fStore.fWriting=false
  ·rw [if_pos hw];exact ⟨pg,view,h⟩
  ·rw [if_neg hw]
   have hw:w.fStore.fWriting=true:=by simpa using hw
   have hstop:WInv {w with fStore:=(stopWriteF w.fStore).1} pg view:=by
    unfold stopWriteF
    rw [if_neg (by rw [hw];simp)]
    exact ⟨stopWrite_inv h.store hw,h.seen,h.ids,h.next⟩
   cases hc:commitT w.fStore.fTxn with
   |none=>exact ⟨pg,view,hstop⟩
   |some r=>
    obtain ⟨d,m⟩:=r
    simp only
    by_cases hf:w.fStore.fFailed=true
    ·rw [if_pos hf];exact ⟨pg,view,hstop⟩
    ·rw [if_neg hf]
     obtain ⟨pg',h2⟩:=endWrite_inv (next':=w.fNext) h.store hw hc
     exact ⟨pg',view,h2,h.seen,h.ids,h.next⟩
 rw [if_neg k4]
 by_cases k5:e.fKind=5
 ·rw [if_pos k5]
  unfold stopWriteF
  by_cases hw:w.fStore.fWriting=false
  ·rw [if_pos hw];exact ⟨pg,view,h⟩
  ·rw [if_neg hw]
   have hw:w.fStore.fWriting=true:=by simpa using hw
   exact ⟨pg,view,stopWrite_inv h.store hw,h.seen,h.ids,h.next⟩
 rw [if_neg k5]
 by_cases k6:e.fKind=6
 ·rw [if_pos k6]
  unfold startReadF
  by_cases h1:¬(1≤e.fId∧e.fId≤9)
  ·rw [if_pos h1];exact ⟨pg,view,h⟩
  rw [if_neg h1]
  by_cases h2:0≤idR w.fStore e.fId
  ·rw [if_pos h2];exact ⟨pg,view,h⟩
  rw [if_neg h2]
  by_cases h3:3≤w.fStore.fReaders.length
  ·rw [if_pos h3];exact ⟨pg,view,h⟩
  rw [if_neg h3]
  have hno:=idR_none.1 (show idR w.fStore e.fId<0 by omega)
  have hs:=startRead_inv h.store (Classical.not_not.1 h1) hno (by omega)
  have hnew:∀s∈w.fSeens,s.fId≠e.fId:=fun s hs he=>by
   have:e.fId∈w.fStore.fReaders.map (·.fId):=h.ids.subset (he▸List.mem_map.2 ⟨s,hs,rfl⟩)
   obtain ⟨r,hr,he2⟩:=List.mem_map.1 this
   exact hno r hr he2
  refine ⟨pg,fun i=>if i=e.fId then w.fModel else view i,hs,fun s hs=>?_,?_,h.next⟩
  ·have hs:s∈w.fSeens++[⟨e.fId,w.fModel⟩]:=hs
   simp only [List.mem_append,List.mem_singleton] at hs
   rcases hs with hs|rfl
   ·rw [if_neg (hnew s hs)];exact h.seen s hs
   ·exact ⟨by simp,(tree_len h.store.disk.tree).1⟩
  ·show ((w.fSeens++[(⟨e.fId,w.fModel⟩:GSeen)]).map (·.fId)).Perm ((startReadS w.fStore e.fId).fReaders.map (·.fId))
   simp only [List.map_append,List.map_cons,List.map_nil,startReadS]
   refine List.Perm.trans (List.perm_append_comm) ?_
   refine List.Perm.trans (List.Perm.cons _ h.ids) ?_
   refine List.Perm.trans ?_ List.perm_middle.symm
   refine List.Perm.cons _ ?_
   rw [←List.map_append]
   refine List.Perm.map _ ?_
   have:w.fStore.fReaders.filter (fun r=>decide (e.fId<r.fId))=w.fStore.fReaders.filter (fun r=> !decide (r.fId<e.fId)):=List.filter_congr fun r hr=>by
    have:=hno r hr
    by_cases hlt:e.fId<r.fId
    ·simp [hlt];omega
    ·simp [hlt];omega
   rw [this]
   exact (List.filter_append_perm _ _).symm
 rw [if_neg k6]
 by_cases k7:e.fKind=7
 ·rw [if_pos k7];exact ⟨pg,view,h⟩
 rw [if_neg k7]
 by_cases k8:e.fKind=8
 ·rw [if_pos k8]
  have hn:=asc_nodup h.store.ids
  have hfil:((w.fSeens.filter fun s=> !decide (s.fId=e.fId)).map (·.fId))=(w.fSeens.map (·.fId)).filter fun i=> !decide (i=e.fId):=by
   rw [List.filter_map];rfl
  unfold endReadF
  by_cases h2:idR w.fStore e.fId<0
  ·rw [if_pos h2]
   refine ⟨pg,view,h.store,fun s hs=>h.seen s (List.mem_filter.1 hs).1,?_,h.next⟩
   simp only
   rw [hfil]
   refine (h.ids.filter _).trans ?_
   rw [List.filter_eq_self.2]
   intro i hi
   obtain ⟨r,hr,rfl⟩:=List.mem_map.1 hi
   have:=idR_none.1 h2 r hr
   simpa using this
  ·rw [if_neg h2]
   obtain ⟨k,r,hk,hr,hid,_⟩:=idR_some (show 0≤idR w.fStore e.fId by omega)
   rw [hk,Int.toNat_natCast]
   refine ⟨pg,view,endRead_inv h.store ?_,fun s hs=>h.seen s (List.mem_filter.1 hs).1,?_,h.next⟩
   ·have:=(List.Sublist.refl (w.fStore.fReaders.take k)).append (List.drop_sublist 1 (w.fStore.fReaders.drop k))
    rwa [List.take_append_drop,List.drop_drop] at this
   ·simp only
    rw [hfil]
    refine (h.ids.filter _).trans ?_
    have:=(ids_erase hn hr).symm
    rw [hid] at this
    exact this
 rw [if_neg k8]
 by_cases k9:e.fKind=9
 ·rw [if_pos k9]
  unfold packF
  by_cases hw:w.fStore.fWriting=false
  ·rw [if_pos hw];exact ⟨pg,view,h⟩
  ·rw [if_neg hw]
   have hw:w.fStore.fWriting=true:=by simpa using hw
   cases hd:packT w.fStore.fTxn with
   |none=>exact ⟨pg,view,failed_inv h.store hw,h.seen,h.ids,h.next⟩
   |some t=>
    obtain ⟨o,pgn,g1,g2,g3⟩:=h.store.txn hw
    rw [packT_at g3] at hd
    obtain ⟨pg',g4⟩:=pack_inv g3 hd
    refine ⟨pg,view,⟨h.store.disk,h.store.ids,h.store.idr,h.store.few,h.store.rds,fun e=>?_,fun _=>⟨o,pg',g1,g2,g4⟩⟩,h.seen,h.ids,h.next⟩
    have e:w.fStore.fWriting=false:=e
    rw [hw] at e;cases e
 rw [if_neg k9]
 by_cases k10:e.fKind=10
 ·rw [if_pos k10]
  simp only
  unfold fallW
  have key:∃m ps pg',DiskInv (if w.fStore.fWriting=true then cutD w.fStore.fTxn e.fStage e.fLeft e.fTorn else fallD w.fStore.fDisk e.fLeft e.fTorn) m ps pg':=by
   by_cases hw:w.fStore.fWriting=true
   ·rw [if_pos hw]
    obtain ⟨o,pgn,g1,g2,g3⟩:=h.store.txn hw
    rcases (cut_inv (stage:=e.fStage) (left:=e.fLeft) (torn:=e.fTorn) h.store.disk g3).2 with h4|⟨_,_,h4⟩
    ·exact ⟨_,_,_,h4⟩
    ·exact ⟨_,_,_,h4⟩
   ·rw [if_neg hw];exact ⟨_,_,_,fall_inv h.store.disk⟩
  obtain ⟨m,ps,pg',hd⟩:=key
  generalize (if w.fStore.fWriting=true then cutD w.fStore.fTxn e.fStage e.fLeft e.fTorn else fallD w.fStore.fDisk e.fLeft e.fTorn)=d at hd ⊢
  simp only
  rw [openF_at hd,Option.getD_some]
  refine ⟨pg',view,?_,by simp,by simp [openS],by simp⟩
  have:allS (openS d m).fDisk (openS d m).fMeta.fRoot=ps:=allS_at hd.tree
  simp only
  rw [this]
  exact open_inv hd
 rw [if_neg k10]
 exact ⟨pg,view,h⟩
theorem stepF_inv {w:GWorld} {pg:List Int} {view:Int→List GPair} {e:GEvent} (h:WInv w pg view):∃pg view,WInv (stepF w e) pg view:=by
 obtain ⟨pg',view',h2⟩:=doF_inv (e:=e) h
 exact ⟨pg',view',h2.store,h2.seen,h2.ids,h2.next⟩
end Go.Rx
namespace Go.Rx
open Go
def headM (m:GMeta):List UInt8:=nB m.fTx++nB m.fRoot++nB m.fNext++varB m.fFrees.length
def metaP (m:GMeta) (i:Nat):List UInt8:=headM m++(m.fFrees.take i).flatMap freeB
def freeP (f:GFree) (k:Nat):List UInt8:=nB f.fTx++varB f.fPages.length++(f.fPages.take k).flatMap nB
theorem metaP_zero {m:GMeta}:metaP m 0=headM m:=by simp [metaP]
theorem metaP_all {m:GMeta}:metaP m m.fFrees.length=metaB m:=by rw [metaP,List.take_length];rfl
theorem metaP_succ {m:GMeta} {i:Nat} {f:GFree} (h:m.fFrees[i]? =some f):metaP m (i+1)=metaP m i++freeB f:=by
 rw [metaP,take_snoc h,List.flatMap_append];simp [metaP]
theorem freeP_zero {f:GFree}:freeP f 0=nB f.fTx++varB f.fPages.length:=by simp [freeP]
theorem freeP_all {f:GFree}:freeP f f.fPages.length=freeB f:=by rw [freeP,List.take_length];rfl
theorem freeP_succ {f:GFree} {k:Nat} {p:Int} (h:f.fPages[k]? =some p):freeP f (k+1)=freeP f k++nB p:=by
 rw [freeP,take_snoc h,List.flatMap_append];simp [freeP]
theorem flat_take_len {α:Type} {g:α→List UInt8} {l:List α} {i:Nat}:((l.take i).flatMap g).length≤(l.flatMap g).length:=by
 have e:l.flatMap g=(l.take i).flatMap g++(l.drop i).flatMap g:=by rw [←List.flatMap_append,List.take_append_drop]
 rw [e,List.length_append];omega
theorem metaP_len {m:GMeta} {i:Nat} (h:metaOk m):(metaP m i).length≤20000:=by
 have h1:=metaB_len h
 have h2:= @flat_take_len _ freeB m.fFrees i
 unfold metaB at h1
 unfold metaP headM
 simp only [List.length_append] at h1 ⊢
 omega
theorem freeP_len {f:GFree} {k:Nat}:(freeP f k).length≤(freeB f).length:=by
 have h2:= @flat_take_len _ nB f.fPages k
 unfold freeP freeB
 simp only [List.length_append]
 omega
def metaV:Option GMeta→V
 |some m=> .tup [.d (.agg m.cells),.d (.bool true)]
 |none=> .tup [.d (.agg GMeta.zero.cells),.d (.bool false)]
def metaTextV (m:GMeta):V:= .tup [.d (.str ((metaText m).getD [])),.d (.bool (metaText m).isSome)]
theorem smallGMeta_ok {m:GMeta} (h:metaOk m):smallGMeta m:=by
 refine ⟨by have:=h.1.2.2.2;omega,fun f hf=>?_⟩
 have:=(h.2.1 f hf).2.1.2
 show f.fPages.length≤1048576
 omega
end Go.Rx
namespace Go.Rx
open Go
def meta0:GMeta:=⟨0,0,2,[]⟩
def fmtD (n:Nat):GDisk:=⟨(List.replicate n []).set 0 (metaT meta0),[]⟩
theorem meta0_ok:metaOk meta0:=by decide
theorem meta0_len:(metaT meta0).length=8:=by
 rw [metaT,seal_len]
 have h:∀n,n≤127→varB n=[UInt8.ofNat n]:=fun n hn=>by rw [varB,if_pos (by omega)]
 simp [metaB,nB,meta0,h]
theorem meta0_text:metaText meta0=some (metaT meta0):=by rw [metaText,if_pos ⟨meta0_ok,by rw [meta0_len];omega⟩]
theorem fmtD_len {n:Nat}:(fmtD n).fPages.length=n:=by simp [fmtD]
theorem fmtD_disk {n:Nat} (h:4≤n∧n≤40):diskOk (fmtD n):=by
 refine ⟨by rw [fmtD_len];exact h.1,by rw [fmtD_len];exact h.2,by simp [fmtD],fun s hs=>?_,by simp [fmtD]⟩
 rcases List.mem_or_eq_of_mem_set hs with hs|rfl
 ·have:=(List.mem_replicate.1 hs).2;subst this;simp
 ·rw [meta0_len];omega
theorem fmt_inv {n:Nat} (h:4≤n∧n≤40):DiskInv (fmtD n) meta0 [] []:=by
 have e0:readPage (fmtD n) 0=metaT meta0:=by
  unfold readPage
  rw [if_pos (by unfold isPage;rw [fmtD_len];omega)]
  obtain ⟨k,rfl⟩:∃k,n=k+1:=⟨n - 1,by omega⟩
  simp [fmtD,lateText,List.replicate_succ]
 have e1:readPage (fmtD n) 1=[]:=by
  unfold readPage
  rw [if_pos (by unfold isPage;rw [fmtD_len];omega)]
  obtain ⟨k,rfl⟩:∃k,n=k+2:=⟨n - 2,by omega⟩
  simp [fmtD,lateText,List.replicate_succ]
 refine ⟨fmtD_disk h,rfl,meta0_ok,by rw [fmtD_len];have:meta0.fNext=2:=rfl;omega,?_,fun m' hm=>?_,.inl ⟨rfl,rfl,rfl⟩,fun q=>?_,by simp⟩
 ·show readMeta (readPage (fmtD n) 0)=_
  rw [e0];exact readMeta_iff.2 meta0_text
 ·have hm:readMeta (readPage (fmtD n) 1)=some m':=hm
  rw [e1,readMeta_nil] at hm;cases hm
 ·have:meta0.fNext=2:=rfl
  have h2:freePages meta0.fFrees=[]:=rfl
  rw [this,h2];simp
def newW (n:Nat):GWorld:=⟨openS (fmtD n) meta0,[],[],[],[],[]⟩
theorem newW_inv {n:Nat} (h:4≤n∧n≤40):WInv (newW n) [] fun _=> []:=⟨open_inv (fmt_inv h),by simp [newW],by simp [newW,openS],by simp [newW]⟩
def kindL:List Int:=[2,2,2,2,2,3,3,4,5,6,7,7,8,9]
def valL:List Key:=[[],[118],[118,97,108],[111,116,104,101,114]]
def evt (k id:Int) (key val:Key):GEvent:=⟨k,id,key,val,0,[],-1⟩
def seen0:GSeen:=⟨0,[]⟩
def pair0:GPair:=⟨[],[]⟩
def argDrop (id:Int) (c:Cur) (w:GWorld):GEvent×Cur:=
 if 0<w.fNext.length then
  if (c.key.2.once 3).1=false then (evt 3 id (w.fNext.getD ((c.key.2.once 3).2.below w.fNext.length).1.toNat pair0).fKey [],((c.key.2.once 3).2.below w.fNext.length).2)
  else (evt 3 id c.key.1 [],(c.key.2.once 3).2)
 else (evt 3 id c.key.1 [],c.key.2)
def argSeen (s:GSeen) (key:Key) (c:Cur):GEvent×Cur:=
 if 0<s.fPairs.length then (evt 7 s.fId (s.fPairs.getD (c.below s.fPairs.length).1.toNat pair0).fKey [],(c.below s.fPairs.length).2) else (evt 7 s.fId key [],c)
def argGet (id:Int) (c:Cur) (w:GWorld):GEvent×Cur:=
 if 0<w.fSeens.length then
  if (c.key.2.once 4).1=false then argSeen (w.fSeens.getD ((c.key.2.once 4).2.below w.fSeens.length).1.toNat seen0) c.key.1 ((c.key.2.once 4).2.below w.fSeens.length).2
  else (evt 7 id c.key.1 [],(c.key.2.once 4).2)
 else (evt 7 id c.key.1 [],c.key.2)
def argsE (k id:Int) (c:Cur) (w:GWorld):GEvent×Cur:=
 if k=2 then (evt 2 id c.key.1 (c.key.2.pick valL).1,(c.key.2.pick valL).2)
 else if k=3 then argDrop id c w
 else if k=7 then argGet id c w
 else if k=8 then (evt 8 (if 0<w.fSeens.length then (w.fSeens.getD 0 seen0).fId else id) [] [],c)
 else (evt k id [] [],c)
def kind1 (c:Cur) (w:GWorld):Int:=if w.fStore.fWriting=false∧((c.pickI kindL).1=2∨(c.pickI kindL).1=3∨(c.pickI kindL).1=4) then 1 else (c.pickI kindL).1
def nextE (c:Cur) (w:GWorld):GEvent×Cur:=
 let b:=(c.pickI kindL).2.below 4
 if kind1 c w=5 then argsE (if (b.2.once 3).1=false then 4 else 5) (1+b.1) (b.2.once 3).2 w else argsE (kind1 c w) (1+b.1) b.2 w
theorem argSeen_ok {s:GSeen} {key:Key} {c:Cur} (h:c.ok):(argSeen s key c).2.ok:=by
 unfold argSeen;split
 ·exact Cur.below_ok h
 ·exact h
theorem argsE_ok {k id:Int} {c:Cur} {w:GWorld} (h:c.ok):(argsE k id c w).2.ok:=by
 unfold argsE argDrop argGet
 repeat' split
 all_goals first
  |exact Cur.pick_ok (Cur.key_ok h)
  |exact Cur.below_ok (Cur.once_ok (Cur.key_ok h))
  |exact Cur.once_ok (Cur.key_ok h)
  |exact Cur.key_ok h
  |exact argSeen_ok (Cur.below_ok (Cur.once_ok (Cur.key_ok h)))
  |exact h
theorem nextE_ok {c:Cur} {w:GWorld} (h:c.ok):(nextE c w).2.ok:=by
 unfold nextE
 simp only
 split
 ·exact argsE_ok (Cur.once_ok (Cur.below_ok (Cur.pickI_ok h)))
 ·exact argsE_ok (Cur.below_ok (Cur.pickI_ok h))
def shortGo:Nat→Nat→Cur→GWorld→GWorld×Cur
 |0,_,c,w=>(w,c)
 |f+1,i,c,w=>if (i:Int)<6+(c.below 24).1 then shortGo f (i+1) (nextE (c.below 24).2 w).2 (stepF w (nextE (c.below 24).2 w).1) else (w,(c.below 24).2)
def shortW (c:Cur):GWorld×Cur:=shortGo 30 0 (c.below 21).2 (newW (20+(c.below 21).1).toNat)
theorem shortGo_inv:∀ {f i:Nat} {c:Cur} {w:GWorld} {pg:List Int} {view:Int→List GPair},WInv w pg view→∃pg view,WInv (shortGo f i c w).1 pg view
 |0,_,_,_,pg,view,h=>⟨pg,view,h⟩
 |f+1,i,c,w,pg,view,h=>by
  rw [shortGo]
  split
  ·obtain ⟨pg',view',h2⟩:=stepF_inv (e:=(nextE (c.below 24).2 w).1) h
   exact shortGo_inv h2
  ·exact ⟨pg,view,h⟩
theorem shortGo_ok:∀ {f i:Nat} {c:Cur} {w:GWorld},c.ok→(shortGo f i c w).2.ok
 |0,_,_,_,h=>h
 |f+1,i,c,w,h=>by
  rw [shortGo]
  split
  ·exact shortGo_ok (nextE_ok (Cur.below_ok h))
  ·exact Cur.below_ok h
theorem shortW_inv {c:Cur}:∃pg view,WInv (shortW c).1 pg view:=by
 have hr:=Cur.below_range (c:=c) (n:=21) (by decide)
 exact shortGo_inv (newW_inv (by omega))
theorem shortW_ok {c:Cur} (h:c.ok):(shortW c).2.ok:=shortGo_ok (Cur.below_ok h)
def vals3:List Key:=[[],[118],[110,101,119]]
def txnStep (c:Cur) (t:GTxn):GTxn×Cur:=
 if (c.once 4).1=true then ((dropT t (c.once 4).2.key.1).getD t,(c.once 4).2.key.2)
 else ((putT t (c.once 4).2.key.1 ((c.once 4).2.key.2.pick vals3).1).getD t,((c.once 4).2.key.2.pick vals3).2)
def txnGo:Nat→Nat→Cur→GTxn→GTxn×Cur
 |0,_,c,t=>(t,c)
 |f+1,i,c,t=>if (i:Int)<(c.below 6).1 then txnGo f (i+1) (txnStep (c.below 6).2 t).2 (txnStep (c.below 6).2 t).1 else (t,(c.below 6).2)
def txnD (c:Cur):GTxn×Cur:=txnGo 6 0 (shortW c).2 (beginT (shortW c).1.fStore.fDisk (shortW c).1.fStore.fMeta (oldestOf (shortW c).1.fStore))
theorem txnStep_ok {c:Cur} {t:GTxn} (h:c.ok):(txnStep c t).2.ok:=by
 unfold txnStep;split
 ·exact Cur.key_ok (Cur.once_ok h)
 ·exact Cur.pick_ok (Cur.key_ok (Cur.once_ok h))
theorem txnStep_inv {d0:GDisk} {m:GMeta} {oldest:Int} {pg0:List Int} {t:GTxn} {ps:List GPair} {pg:List Int} {c:Cur} (h:TxnInv d0 m oldest pg0 t ps pg):∃ps pg,TxnInv d0 m oldest pg0 (txnStep c t).1 ps pg:=by
 unfold txnStep
 split
 ·cases hd:dropT t (c.once 4).2.key.1 with
  |none=>exact ⟨ps,pg,h⟩
  |some t'=>
   obtain ⟨_,pg',h2⟩:=dropT_inv h hd
   exact ⟨_,pg',h2⟩
 ·cases hd:putT t (c.once 4).2.key.1 ((c.once 4).2.key.2.pick vals3).1 with
  |none=>exact ⟨ps,pg,h⟩
  |some t'=>
   obtain ⟨pg',h2⟩:=putT_inv h hd
   exact ⟨_,pg',h2⟩
theorem txnGo_inv {d0:GDisk} {m:GMeta} {oldest:Int} {pg0:List Int}:∀ {f i:Nat} {c:Cur} {t:GTxn} {ps:List GPair} {pg:List Int},TxnInv d0 m oldest pg0 t ps pg→∃ps pg,TxnInv d0 m oldest pg0 (txnGo f i c t).1 ps pg
 |0,_,_,_,ps,pg,h=>⟨ps,pg,h⟩
 |f+1,i,c,t,ps,pg,h=>by
  rw [txnGo]
  split
  ·obtain ⟨ps',pg',h2⟩:=txnStep_inv (c:=(c.below 6).2) h
   exact txnGo_inv h2
  ·exact ⟨ps,pg,h⟩
theorem txnD_inv {c:Cur}:∃s ps0 pg0 next view ps pg,StoreInv s ps0 pg0 next view∧s=(shortW c).1.fStore∧TxnInv s.fDisk s.fMeta (oldestOf s) pg0 (txnD c).1 ps pg:=by
 obtain ⟨pg0,view,h⟩:=shortW_inv (c:=c)
 obtain ⟨ps,pg,h2⟩:=txnGo_inv (f:=6) (i:=0) (c:=(shortW c).2) (beginT_inv (oldest:=oldestOf (shortW c).1.fStore) h.store.disk)
 exact ⟨_,_,_,_,_,ps,pg,h.store,rfl,h2⟩
end Go.Rx
namespace Go.Rx
open Go
theorem fallGo_snoc {left:List Bool} {torn:Int} {x:GPut}:∀ {l:List GPut} {i:Nat} {ps:List Key},fallGo left torn i ps (l++[x])=
  if left.getD (i+l.length) false=true then (fallGo left torn i ps l).set x.fPage.toNat (tornT x.fText (decide (((i+l.length:Nat):Int)=torn))) else fallGo left torn i ps l
 |[],i,ps=>by simp [fallGo]
 |y::l,i,ps=>by
  rw [List.cons_append,fallGo,fallGo_snoc,fallGo]
  have:i+1+l.length=i+(y::l).length:=by simp;omega
  rw [this]
def fallSt (d:GDisk) (left:List Bool) (torn:Int) (i:Nat):List Key:=fallGo left torn 0 d.fPages (d.fLate.take i)
theorem fallSt_len {d:GDisk} {left:List Bool} {torn:Int} {i:Nat}:(fallSt d left torn i).length=d.fPages.length:=fallGo_len
theorem fallSt_step {d:GDisk} {left:List Bool} {torn:Int} {i:Nat} {q:GPut} (h:d.fLate[i]? =some q):
  fallSt d left torn (i+1)=if left.getD i false=true then (fallSt d left torn i).set q.fPage.toNat (tornT q.fText (decide ((i:Int)=torn))) else fallSt d left torn i:=by
 have hi:=(List.getElem?_eq_some_iff.1 h).1
 have e:(d.fLate.take i).length=i:=by rw [List.length_take];omega
 unfold fallSt;rw [take_snoc h,fallGo_snoc,e,Nat.zero_add]
theorem fallSt_all {d:GDisk} {left:List Bool} {torn:Int} (h:diskOk d) {i:Nat} (hi:d.fLate.length≤i):fallD d left torn=⟨fallSt d left torn i,[]⟩:=by
 rw [fallD,if_pos h,fallSt,List.take_of_length_le hi]
theorem sync_fmt {n:Nat} (h:4≤n):syncD ⟨List.replicate n [],[⟨0,metaT meta0⟩]⟩=fmtD n:=by
 simp only [syncD,fmtD,List.length_replicate,syncGo,List.foldl_cons,List.foldl_nil]
 rw [if_pos ⟨Int.le_refl _,by omega⟩];rfl
theorem fmt_disk0 {n:Nat} (h:4≤n∧n≤40):diskOk ⟨List.replicate n [],[]⟩:=
 ⟨by simpa using h.1,by simpa using h.2,by simp,fun s hs=>by rw [(List.mem_replicate.1 hs).2];simp,by simp⟩
theorem fmt_write {n:Nat} (h:4≤n∧n≤40):writePage ⟨List.replicate n [],[]⟩ 0 (metaT meta0)=some ⟨List.replicate n [],[⟨0,metaT meta0⟩]⟩:=by
 rw [writePage,if_pos ⟨fmt_disk0 h,by unfold isPage;simp only [List.length_replicate];omega,by rw [meta0_len];omega,by simp⟩];rfl
def openV (d:GDisk):V:= .tup [.d (.agg ((openF d).getD GStore.zero).cells),.d (.bool (openF d).isSome)]
def wrF (d:GDisk) (p:Int) (t:Key):GDisk:=(writePage d p t).getD d
theorem wrF_some {d d':GDisk} {p:Int} {t:Key} (h:writePage d p t=some d'):wrF d p t=d':=by rw [wrF,h];rfl
end Go.Rx
namespace Go.Rx
theorem metaV_none:metaV none= .tup [.d (.agg [.int .i64 0,.int .i64 0,.int .i64 0,.sl []]),.d (.bool false)]:=rfl
theorem metaV_some {m:GMeta}:metaV (some m)= .tup [.d (.agg [.int .i64 m.fTx,.int .i64 m.fRoot,.int .i64 m.fNext,.sl (GFreeS m.fFrees)]),.d (.bool true)]:=rfl
end Go.Rx
namespace Go.Rx
open Go
def useGo (m:GMeta) (o:Int) (i:Nat):List Int:=((m.fFrees.take i).filter fun f=>decide (f.fTx≤o)).flatMap (·.fPages)
theorem useGo_step {m:GMeta} {o:Int} {i:Nat} {f:GFree} (h:m.fFrees[i]? =some f):useGo m o (i+1)=useGo m o i++(if f.fTx≤o then f.fPages else []):=by
 unfold useGo
 rw [take_snoc h,List.filter_append,List.flatMap_append]
 by_cases e:f.fTx≤o<;>simp [e]
theorem useGo_len {m:GMeta} {o:Int} {i:Nat}:(useGo m o i).length≤(freePages m.fFrees).length:=by
 have h:∀ {a b:List GFree},a.Sublist b→(a.flatMap (·.fPages)).length≤(b.flatMap (·.fPages)).length:=by
  intro a b h
  induction h with
  |slnil=>simp
  |cons x _ ih=>simp only [List.flatMap_cons,List.length_append];omega
  |cons_cons x _ ih=>simp only [List.flatMap_cons,List.length_append];omega
 have h2:(m.fFrees.take i).Sublist m.fFrees:=List.take_sublist i _
 exact h ((List.filter_sublist (p:=fun f:GFree=>decide (f.fTx≤o)) (l:=m.fFrees.take i)).trans h2)
theorem useGo_all {d:GDisk} {m:GMeta} {o:Int}:sortI (useGo m o m.fFrees.length)=(workNew d m o).fUsable:=by
 rw [useGo,List.take_length];rfl
def notIn (fresh l:List Int):List Int:=l.filter fun p=> !decide (p∈fresh)
theorem notIn_len {fresh l:List Int}:(notIn fresh l).length≤l.length:=List.length_filter_le _ _
theorem notIn_snoc {fresh l:List Int} {k:Nat} {p:Int} (h:l[k]? =some p):notIn fresh (l.take (k+1))=notIn fresh (l.take k)++(if p∈fresh then [] else [p]):=by
 unfold notIn
 rw [take_snoc h,List.filter_append]
 by_cases e:p∈fresh<;>simp [e]
theorem kept_snoc {fresh:List Int} {l:List GFree} {i:Nat} {f:GFree} (h:l[i]? =some f):
  keptFrees fresh (l.take (i+1))=keptFrees fresh (l.take i)++(if 0<(notIn fresh f.fPages).length then [⟨f.fTx,notIn fresh f.fPages⟩] else []):=by
 unfold keptFrees notIn
 rw [take_snoc h,List.map_append,List.filter_append]
 by_cases e:0<(f.fPages.filter fun p=> !decide (p∈fresh)).length
 ·rw [if_pos e];simp only [List.map_cons,List.map_nil];rw [List.filter_cons_of_pos (by simpa using e)];rfl
 ·rw [if_neg e];simp only [List.map_cons,List.map_nil];rw [List.filter_cons_of_neg (by simpa using e)];rfl
theorem kept_len {fresh:List Int} {l:List GFree}:(keptFrees fresh l).length≤l.length:=by
 unfold keptFrees;refine Nat.le_trans (List.length_filter_le _ _) ?_;simp
theorem kept_small {fresh:List Int} {l:List GFree} {n:Nat} (h:∀f∈l,f.fPages.length≤n):∀f∈keptFrees fresh l,f.fPages.length≤n:=by
 intro f hf
 unfold keptFrees at hf
 obtain ⟨hf,_⟩:=List.mem_filter.1 hf
 obtain ⟨g,hg,rfl⟩:=List.mem_map.1 hf
 have:=h g hg
 have h2:(g.fPages.filter fun p=> !decide (p∈fresh)).length≤g.fPages.length:=List.length_filter_le _ _
 simp only;omega
def newGo (t:GTxn) (i:Nat):List Int:=t.fWork.fGone++(t.fWork.fUsable.take i).filter fun p=>decide (t.fBase.fNext≤p)
theorem newGo_step {t:GTxn} {i:Nat} {p:Int} (h:t.fWork.fUsable[i]? =some p):newGo t (i+1)=newGo t i++(if t.fBase.fNext≤p then [p] else []):=by
 unfold newGo
 rw [take_snoc h,List.filter_append]
 by_cases e:t.fBase.fNext≤p<;>simp [e]
theorem newGo_len {t:GTxn} {i:Nat}:(newGo t i).length≤t.fWork.fGone.length+t.fWork.fUsable.length:=by
 unfold newGo
 have:=List.length_filter_le (fun p=>decide (t.fBase.fNext≤p)) (t.fWork.fUsable.take i)
 simp only [List.length_take] at this
 simp only [List.length_append];omega
theorem newGo_all {t:GTxn}:sortI (newGo t t.fWork.fUsable.length)=newPages t:=by rw [newGo,List.take_length];rfl
theorem nextTx_wrap {t:GTxn} (h:0≤t.fBase.fTx∧t.fBase.fTx≤100000):nextTx t=t.fBase.fTx+1:=by unfold nextTx;rw [if_pos (by omega)]
def txnV (o:Option GTxn) (t:GTxn):V:= .tup [.d (.agg (o.getD t).cells),.d (.bool o.isSome)]
def nextMetaV (t:GTxn):V:= .tup [.d (.agg ((nextMeta t).getD GMeta.zero).cells),.d (.bool (nextMeta t).isSome)]
def commitV (t:GTxn):V:=match commitT t with
 |some (d,m)=> .tup [.d (.agg d.cells),.d (.agg m.cells),.d (.bool true)]
 |none=> .tup [.d (.agg t.fWork.fDisk.cells),.d (.agg t.fBase.cells),.d (.bool false)]
end Go.Rx
namespace Go.Rx
open Go
structure SmallS (s:GStore):Prop where
 disk:smallD s.fDisk
 page:∀p,(readPage s.fDisk p).length≤1048576
 mt:metaOk s.fMeta
 few:s.fReaders.length≤1000
 rds:∀r∈s.fReaders,smallGMeta r.fMeta
 base:smallGMeta s.fTxn.fBase
 work:smallW s.fTxn.fWork
theorem DiskInv.pages_len {d:GDisk} {m:GMeta} {ps:List GPair} {pg:List Int} (h:DiskInv d m ps pg):pg.length≤1000:=by
 have h2:=h.tree.nodup
 have h3:∀x∈pg,x∈(List.range 40).map fun i:Nat=>(i:Int):=fun x hx=>by
  have:=(h.part x).2 (.inl hx)
  have:=h.ok.1.2.1.2
  exact List.mem_map.2 ⟨x.toNat,List.mem_range.2 (by omega),by omega⟩
 have:=sub_len h2 h3
 simp at this
 omega
theorem smallD_ok {d:GDisk} (h:diskOk d):smallD d:=⟨by have:=h.2.1;omega,by have:=h.2.2.1;omega⟩
theorem readPage_small {d:GDisk} (h:diskOk d):∀p,(readPage d p).length≤1048576:=fun p=>by have:=readPage_le h p;omega
theorem StoreInv.small {s:GStore} {ps:List GPair} {pg:List Int} {next:List GPair} {view:Int→List GPair} (h:StoreInv s ps pg next view):SmallS s:=by
 refine ⟨smallD_ok h.disk.disk,readPage_small h.disk.disk,h.disk.ok,by have:=h.few;omega,fun r hr=>smallGMeta_ok (h.rds r hr).1.1,?_,?_⟩
 ·cases hw:s.fWriting with
  |false=>rw [(h.idle hw).1];exact ⟨by simp [GTxn.zero,GMeta.zero],by simp [GTxn.zero,GMeta.zero]⟩
  |true=>
   obtain ⟨o,pgn,_,_,h3⟩:=h.txn hw
   rw [h3.base];exact smallGMeta_ok h.disk.ok
 ·cases hw:s.fWriting with
  |false=>rw [(h.idle hw).1];exact ⟨⟨by simp [GTxn.zero,GWork.zero,GDisk.zero],by simp [GTxn.zero,GWork.zero,GDisk.zero]⟩,by simp [GTxn.zero,GWork.zero],by simp [GTxn.zero,GWork.zero],by simp [GTxn.zero,GWork.zero]⟩
  |true=>
   obtain ⟨o,pgn,_,_,h3⟩:=h.txn hw
   exact h3.txs.ok.smallW h.disk.pages_len
theorem metaOk_free {m:GMeta} (h:metaOk m):(freePages m.fFrees).length≤800:=by
 have h1:=freePages_len h.2.1
 have h2:=h.1.2.2.2
 omega
theorem smallS_free {s:GStore} (h:SmallS s):(freePages s.fMeta.fFrees).length≤1048576:=by
 have:=metaOk_free h.mt;omega
def oldSt (s:GStore) (i:Nat):Int:=oldestGo s.fMeta.fTx (s.fReaders.take i)
theorem oldSt_step {s:GStore} {i:Nat} {r:GReader} (h:s.fReaders[i]? =some r):oldSt s (i+1)=if r.fMeta.fTx<oldSt s i then r.fMeta.fTx else oldSt s i:=by
 unfold oldSt oldestGo;rw [take_snoc h,List.foldl_append];rfl
theorem oldSt_all {s:GStore}:oldSt s s.fReaders.length=oldestOf s:=by unfold oldSt oldestOf;rw [List.take_length]
def lowR (id:Int) (l:List GReader):List GReader:=l.filter fun r=>decide (r.fId<id)
def highR (id:Int) (l:List GReader):List GReader:=l.filter fun r=>decide (id<r.fId)
theorem lowR_snoc {id:Int} {l:List GReader} {i:Nat} {r:GReader} (h:l[i]? =some r):lowR id (l.take (i+1))=lowR id (l.take i)++(if r.fId<id then [r] else []):=by
 unfold lowR;rw [take_snoc h,List.filter_append];by_cases e:r.fId<id<;>simp [e]
theorem highR_snoc {id:Int} {l:List GReader} {i:Nat} {r:GReader} (h:l[i]? =some r):highR id (l.take (i+1))=highR id (l.take i)++(if id<r.fId then [r] else []):=by
 unfold highR;rw [take_snoc h,List.filter_append];by_cases e:id<r.fId<;>simp [e]
theorem lowR_len {id:Int} {l:List GReader}:(lowR id l).length≤l.length:=List.length_filter_le _ _
theorem highR_len {id:Int} {l:List GReader}:(highR id l).length≤l.length:=List.length_filter_le _ _
def storeV (r:GStore×Int):V:= .tup [.d (.agg r.1.cells),.d (.int .i64 r.2)]
end Go.Rx
namespace Go.Rx
open Go
theorem DiskInv.pages_few {d:GDisk} {m:GMeta} {ps:List GPair} {pg:List Int} (h:DiskInv d m ps pg):pg.length≤40:=by
 have h2:=h.tree.nodup
 have h3:∀x∈pg,x∈(List.range 40).map fun i:Nat=>(i:Int):=fun x hx=>by
  have:=(h.part x).2 (.inl hx)
  have:=h.ok.1.2.1.2
  exact List.mem_map.2 ⟨x.toNat,List.mem_range.2 (by omega),by omega⟩
 have:=sub_len h2 h3
 simp at this
 omega
theorem txn_bounds {d0:GDisk} {m:GMeta} {oldest:Int} {pg0 pg:List Int} {ps0 ps:List GPair} {t:GTxn} (hD:DiskInv d0 m ps0 pg0) (h:TxnInv d0 m oldest pg0 t ps pg):
  metaOk t.fBase∧t.fWork.fGone.length+t.fWork.fUsable.length≤1000∧(newPages t).length≤1000:=by
 have h1:=hD.pages_few
 have h2:=h.txs.ok.goneLen
 have h3:=h.txs.ok.few.2
 have h4:=newGo_len (t:=t) (i:=t.fWork.fUsable.length)
 rw [← @sortI_len (newGo t t.fWork.fUsable.length),newGo_all] at h4
 exact ⟨by rw [h.base];exact hD.ok,by omega,by omega⟩
def wdV (w:GWorld):List V:=[.d (.sl (strs w.fStore.fDisk.fPages)),.d (.sl (GPutS w.fStore.fDisk.fLate)),.d (.int .i64 w.fStore.fMeta.fTx),.d (.int .i64 w.fStore.fMeta.fRoot),.d (.int .i64 w.fStore.fMeta.fNext),.d (.sl (GFreeS w.fStore.fMeta.fFrees)),.d (.sl (GReaderS w.fStore.fReaders)),
 .d (.int .i64 w.fStore.fTxn.fBase.fTx),.d (.int .i64 w.fStore.fTxn.fBase.fRoot),.d (.int .i64 w.fStore.fTxn.fBase.fNext),.d (.sl (GFreeS w.fStore.fTxn.fBase.fFrees)),.d (.sl (strs w.fStore.fTxn.fWork.fDisk.fPages)),.d (.sl (GPutS w.fStore.fTxn.fWork.fDisk.fLate)),.d (.int .i64 w.fStore.fTxn.fWork.fNext),.d (.sl (ints w.fStore.fTxn.fWork.fUsable)),.d (.sl (ints w.fStore.fTxn.fWork.fGone)),.d (.sl (ints w.fStore.fTxn.fWork.fFresh)),.d (.int .i64 w.fStore.fTxn.fRoot),.d (.bool w.fStore.fWriting),.d (.bool w.fStore.fFailed),
 .d (.sl (GPairS w.fModel)),.d (.sl (GPairS w.fNext)),.d (.sl (GSeenS w.fSeens)),.d (.sl (ints w.fCodes)),.d (.sl (strs w.fTold))]
theorem wdV_eq {w:GWorld}:wdV w=[.d (.sl (strs w.fStore.fDisk.fPages)),.d (.sl (GPutS w.fStore.fDisk.fLate)),.d (.int .i64 w.fStore.fMeta.fTx),.d (.int .i64 w.fStore.fMeta.fRoot),.d (.int .i64 w.fStore.fMeta.fNext),.d (.sl (GFreeS w.fStore.fMeta.fFrees)),.d (.sl (GReaderS w.fStore.fReaders)),
 .d (.int .i64 w.fStore.fTxn.fBase.fTx),.d (.int .i64 w.fStore.fTxn.fBase.fRoot),.d (.int .i64 w.fStore.fTxn.fBase.fNext),.d (.sl (GFreeS w.fStore.fTxn.fBase.fFrees)),.d (.sl (strs w.fStore.fTxn.fWork.fDisk.fPages)),.d (.sl (GPutS w.fStore.fTxn.fWork.fDisk.fLate)),.d (.int .i64 w.fStore.fTxn.fWork.fNext),.d (.sl (ints w.fStore.fTxn.fWork.fUsable)),.d (.sl (ints w.fStore.fTxn.fWork.fGone)),.d (.sl (ints w.fStore.fTxn.fWork.fFresh)),.d (.int .i64 w.fStore.fTxn.fRoot),.d (.bool w.fStore.fWriting),.d (.bool w.fStore.fFailed),
 .d (.sl (GPairS w.fModel)),.d (.sl (GPairS w.fNext)),.d (.sl (GSeenS w.fSeens)),.d (.sl (ints w.fCodes)),.d (.sl (strs w.fTold))]:=rfl
def pagesV (d:GDisk) (root:Int):V:=if (lookS d root).bad=true then .tup [.d (.sl []),.d (.bool false)] else .tup [.d (.sl (ints (sortI (lookS d root).pages))),.d (.bool true)]
theorem lookS_len {d:GDisk} {root:Int}:(lookS d root).pages.length≤131072∧(lookS d root).pairs.length≤131072∧(lookS d root).deeps.length≤131072:=by
 unfold lookS
 by_cases hr:root=0
 ·rw [if_pos hr];simp [Al.new]
 ·rw [if_neg hr]
  have e1:=walk_pairs (d:=d) (f:=8) (page:=root) (low:=[]) (high:=[]) (has:=false) (a:=Al.new)
  have e2:=walk_pages (d:=d) (f:=8) (page:=root) (low:=[]) (high:=[]) (has:=false) (a:=Al.new)
  have e3:=walk_deeps (d:=d) (f:=8) (page:=root) (low:=[]) (high:=[]) (has:=false) (a:=Al.new)
  have z1:Al.new.pairs.length=0:=rfl
  have z2:Al.new.pages.length=0:=rfl
  have z3:Al.new.deeps.length=0:=rfl
  have z4:(2:Nat)*4 ^ 8=131072:=rfl
  omega
def doV (r:GWorld×Int×Key):V:= .tup [.d (.int .i64 r.2.1),.d (.str r.2.2)]
theorem WInv.model_len {w:GWorld} {pg:List Int} {view:Int→List GPair} (h:WInv w pg view):w.fModel.length≤131072:=(tree_len h.store.disk.tree).1
theorem WInv.seens_few {w:GWorld} {pg:List Int} {view:Int→List GPair} (h:WInv w pg view):w.fSeens.length≤3:=by
 have:=h.ids.length_eq
 simp only [List.length_map] at this
 have:=h.store.few
 omega
end Go.Rx
namespace Go.Rx
open Go
theorem setW_keep {w:GWorld} {r:GStore×Int} {f:GWorld→GWorld} (hf:∀w,(f w).fCodes=w.fCodes∧(f w).fTold=w.fTold):(setW w r f).1.fCodes=w.fCodes∧(setW w r f).1.fTold=w.fTold:=by
 unfold setW
 by_cases h:r.2=0
 ·rw [if_pos h];exact hf _
 ·rw [if_neg h];exact ⟨rfl,rfl⟩
theorem doF_keep {w:GWorld} {e:GEvent}:(doF w e).1.fCodes=w.fCodes∧(doF w e).1.fTold=w.fTold:=by
 unfold doF
 repeat' split
 all_goals first
  |exact setW_keep fun _=>⟨rfl,rfl⟩
  |exact ⟨rfl,rfl⟩
theorem stepF_codes {w:GWorld} {e:GEvent}:(stepF w e).fCodes.length=w.fCodes.length+1∧(stepF w e).fTold.length=w.fTold.length+1:=by simp [stepF]
theorem nextE_plain {c:Cur} {w:GWorld}:(nextE c w).1.fStage=0∧(nextE c w).1.fLeft=[]∧(nextE c w).1.fTorn= -1:=by
 unfold nextE argsE argDrop argGet argSeen
 simp only
 repeat' split
 all_goals exact ⟨rfl,rfl,rfl⟩
theorem nextE_kind {c:Cur} {w:GWorld}:1≤(nextE c w).1.fKind∧(nextE c w).1.fKind≤9:=by
 have hm:=Cur.pickI_mem (c:=c) (l:=kindL) (by decide)
 have hk:1≤kind1 c w∧kind1 c w≤9:=by
  unfold kind1
  split
  ·decide
  ·have:∀x∈kindL,1≤x∧x≤9:=by decide
   exact this _ hm
 have ha:∀(k id:Int) (c:Cur),1≤k∧k≤9→1≤(argsE k id c w).1.fKind∧(argsE k id c w).1.fKind≤9:=by
  intro k id c hk
  unfold argsE argDrop argGet argSeen
  repeat' split
  all_goals first
   |exact hk
   |(simp only [evt];omega)
 unfold nextE
 simp only
 split
 ·apply ha;split<;>decide
 ·exact ha _ _ _ hk
end Go.Rx
namespace Go.Rx
open Go
theorem shortGo_go {i:Nat} {c:Cur} {w:GWorld} (h:(i:Int)<6+(c.below 24).1) (hi:i<30):shortGo (30 - i) i c w=shortGo (30 - (i+1)) (i+1) (nextE (c.below 24).2 w).2 (stepF w (nextE (c.below 24).2 w).1):=by
 obtain ⟨f,hf⟩:∃f,30 - i=f+1:=⟨29 - i,by omega⟩
 have h2:30 - (i+1)=f:=by omega
 rw [hf,h2,shortGo,if_pos h]
theorem shortGo_stop {i:Nat} {c:Cur} {w:GWorld} (h:¬(i:Int)<6+(c.below 24).1) (hi:i<30):shortGo (30 - i) i c w=(w,(c.below 24).2):=by
 obtain ⟨f,hf⟩:∃f,30 - i=f+1:=⟨29 - i,by omega⟩
 rw [hf,shortGo,if_neg h]
theorem txnGo_go {i:Nat} {c:Cur} {t:GTxn} (h:(i:Int)<(c.below 6).1) (hi:i<6):txnGo (6 - i) i c t=txnGo (6 - (i+1)) (i+1) (txnStep (c.below 6).2 t).2 (txnStep (c.below 6).2 t).1:=by
 obtain ⟨f,hf⟩:∃f,6 - i=f+1:=⟨5 - i,by omega⟩
 have h2:6 - (i+1)=f:=by omega
 rw [hf,h2,txnGo,if_pos h]
theorem txnGo_stop {i:Nat} {c:Cur} {t:GTxn} (h:¬(i:Int)<(c.below 6).1) (hi:i<6):txnGo (6 - i) i c t=(t,(c.below 6).2):=by
 obtain ⟨f,hf⟩:∃f,6 - i=f+1:=⟨5 - i,by omega⟩
 rw [hf,txnGo,if_neg h]
def tdV (t:GTxn):List V:=[.d (.int .i64 t.fBase.fTx),.d (.int .i64 t.fBase.fRoot),.d (.int .i64 t.fBase.fNext),.d (.sl (GFreeS t.fBase.fFrees)),.d (.sl (strs t.fWork.fDisk.fPages)),.d (.sl (GPutS t.fWork.fDisk.fLate)),.d (.int .i64 t.fWork.fNext),.d (.sl (ints t.fWork.fUsable)),.d (.sl (ints t.fWork.fGone)),.d (.sl (ints t.fWork.fFresh)),.d (.int .i64 t.fRoot)]
theorem tdV_eq {t:GTxn}:tdV t=[.d (.int .i64 t.fBase.fTx),.d (.int .i64 t.fBase.fRoot),.d (.int .i64 t.fBase.fNext),.d (.sl (GFreeS t.fBase.fFrees)),.d (.sl (strs t.fWork.fDisk.fPages)),.d (.sl (GPutS t.fWork.fDisk.fLate)),.d (.int .i64 t.fWork.fNext),.d (.sl (ints t.fWork.fUsable)),.d (.sl (ints t.fWork.fGone)),.d (.sl (ints t.fWork.fFresh)),.d (.int .i64 t.fRoot)]:=rfl
end Go.Rx
namespace Go.Rx
open Go
def sdV (s:GStore):List V:=[.d (.sl (strs s.fDisk.fPages)),.d (.sl (GPutS s.fDisk.fLate)),.d (.int .i64 s.fMeta.fTx),.d (.int .i64 s.fMeta.fRoot),.d (.int .i64 s.fMeta.fNext),.d (.sl (GFreeS s.fMeta.fFrees)),.d (.sl (GReaderS s.fReaders)),
 .d (.int .i64 s.fTxn.fBase.fTx),.d (.int .i64 s.fTxn.fBase.fRoot),.d (.int .i64 s.fTxn.fBase.fNext),.d (.sl (GFreeS s.fTxn.fBase.fFrees)),.d (.sl (strs s.fTxn.fWork.fDisk.fPages)),.d (.sl (GPutS s.fTxn.fWork.fDisk.fLate)),.d (.int .i64 s.fTxn.fWork.fNext),.d (.sl (ints s.fTxn.fWork.fUsable)),.d (.sl (ints s.fTxn.fWork.fGone)),.d (.sl (ints s.fTxn.fWork.fFresh)),.d (.int .i64 s.fTxn.fRoot),.d (.bool s.fWriting),.d (.bool s.fFailed)]
theorem sdV_eq {s:GStore}:sdV s=[.d (.sl (strs s.fDisk.fPages)),.d (.sl (GPutS s.fDisk.fLate)),.d (.int .i64 s.fMeta.fTx),.d (.int .i64 s.fMeta.fRoot),.d (.int .i64 s.fMeta.fNext),.d (.sl (GFreeS s.fMeta.fFrees)),.d (.sl (GReaderS s.fReaders)),
 .d (.int .i64 s.fTxn.fBase.fTx),.d (.int .i64 s.fTxn.fBase.fRoot),.d (.int .i64 s.fTxn.fBase.fNext),.d (.sl (GFreeS s.fTxn.fBase.fFrees)),.d (.sl (strs s.fTxn.fWork.fDisk.fPages)),.d (.sl (GPutS s.fTxn.fWork.fDisk.fLate)),.d (.int .i64 s.fTxn.fWork.fNext),.d (.sl (ints s.fTxn.fWork.fUsable)),.d (.sl (ints s.fTxn.fWork.fGone)),.d (.sl (ints s.fTxn.fWork.fFresh)),.d (.int .i64 s.fTxn.fRoot),.d (.bool s.fWriting),.d (.bool s.fFailed)]:=rfl
end Go.Rx
namespace Go.Rx
open Go
def giveL (W:GWork):List Int:=W.fUsable++(List.range (W.fDisk.fPages.length - W.fNext.toNat)).map fun k:Nat=>W.fNext+(k:Int)
def giveN (W:GWork) (i:Nat):GWork:= {W with fUsable:=W.fUsable.drop i,fNext:=W.fNext+((i - W.fUsable.length:Nat):Int),fFresh:=W.fFresh++(giveL W).take i}
theorem giveL_len {W:GWork}:(giveL W).length=W.fUsable.length+(W.fDisk.fPages.length - W.fNext.toNat):=by simp [giveL]
theorem giveN_zero {W:GWork}:giveN W 0=W:=by simp [giveN]
theorem giveL_at {ours:Int→Prop} {B:List Int} {W:GWork} (h:WOK ours B W) {i:Nat} {p:Int} (hp:(giveL W)[i]? =some p):
  (i<W.fUsable.length∧W.fUsable[i]? =some p)∨(W.fUsable.length≤i∧p=W.fNext+((i - W.fUsable.length:Nat):Int)∧p<W.fDisk.fPages.length):=by
 have hn2:=h.next2
 by_cases hi:i<W.fUsable.length
 ·refine .inl ⟨hi,?_⟩
  rw [giveL,List.getElem?_append_left hi] at hp;exact hp
 ·refine .inr ⟨by omega,?_⟩
  rw [giveL,List.getElem?_append_right (by omega),List.getElem?_map] at hp
  obtain ⟨k,hk,rfl⟩:=Option.map_eq_some_iff.1 hp
  rw [List.getElem?_eq_some_iff] at hk
  obtain ⟨hk1,hk2⟩:=hk
  simp only [List.length_range] at hk1
  simp only [List.getElem_range] at hk2
  subst hk2
  exact ⟨rfl,by omega⟩
theorem giveN_step {ours:Int→Prop} {B:List Int} {W:GWork} (h:WOK ours B W) {i:Nat} {p:Int} (hp:(giveL W)[i]? =some p):giveP (giveN W i)=(giveN W (i+1),p):=by
 have ht:(giveL W).take (i+1)=(giveL W).take i++[p]:=take_snoc hp
 rcases giveL_at h hp with ⟨h1,h2⟩|⟨h1,h2,h3⟩
 ·have hd:W.fUsable.drop i=p::W.fUsable.drop (i+1):=drop_cons h2
  have e1:i - W.fUsable.length=0:=by omega
  have e2:i+1 - W.fUsable.length=0:=by omega
  simp only [giveP,giveN,hd,e1,e2,ht,List.append_assoc]
 ·have hd:W.fUsable.drop i=[]:=List.drop_of_length_le h1
  have hd2:W.fUsable.drop (i+1)=[]:=List.drop_of_length_le (by omega)
  have e2:((i+1 - W.fUsable.length:Nat):Int)=((i - W.fUsable.length:Nat):Int)+1:=by omega
  simp only [giveP,giveN,hd,hd2,ht,e2]
  rw [if_neg (by rw [←h2];omega)]
  simp only [←h2,List.append_assoc,Prod.mk.injEq,and_true]
  have hdk:=h.disk.2.1
  have hw:IntKind.i64.wrap (p+1)=W.fNext+((i - W.fUsable.length:Nat):Int)+1:=by rw [wrap_int (by have:=h.next2;omega) (by omega)];omega
  rw [hw]
  congr 1
  omega
theorem giveN_stop {ours:Int→Prop} {B:List Int} {W:GWork} (h:WOK ours B W):giveP (giveN W (giveL W).length)=(giveN W (giveL W).length,0)∧(giveN W (giveL W).length).fUsable=[]∧(giveN W (giveL W).length).fNext=W.fDisk.fPages.length:=by
 have hn2:=h.next2
 have hnl:=h.nextL
 have hl:= @giveL_len W
 have hd:W.fUsable.drop (giveL W).length=[]:=List.drop_of_length_le (by omega)
 have hx:W.fNext+(((giveL W).length - W.fUsable.length:Nat):Int)=W.fDisk.fPages.length:=by omega
 refine ⟨?_,hd,hx⟩
 simp only [giveP,giveN,hd]
 rw [if_pos (by omega)]
theorem giveL_nodup {ours:Int→Prop} {B:List Int} {W:GWork} (h:WOK ours B W):(giveL W).Nodup:=by
 unfold giveL
 rw [List.nodup_append]
 refine ⟨h.usable.imp fun h=>by omega,?_,fun a ha b hb=>?_⟩
 ·exact List.Pairwise.map _ (fun a b hab h2=>hab (by omega)) List.nodup_range
 ·obtain ⟨k,_,rfl⟩:=List.mem_map.1 hb
  have:=(h.small a (.inr ha)).2
  omega
theorem giveL_page {ours:Int→Prop} {B:List Int} {W:GWork} (h:WOK ours B W) {i:Nat} {p:Int} (hp:(giveL W)[i]? =some p):
  p∉(giveL W).take i∧p∉W.fFresh∧2≤p∧p<W.fDisk.fPages.length∧p∈(giveN W (i+1)).fFresh∧(i<W.fUsable.length→W.fUsable[i]? =some p):=by
 have hn2:=h.next2
 have hnl:=h.nextL
 have ht:(giveL W).take (i+1)=(giveL W).take i++[p]:=take_snoc hp
 refine ⟨?_,?_,?_,?_,by simp [giveN,ht],fun hi=>?_⟩
 ·have:=(giveL_nodup h).sublist (List.take_sublist (i+1) _)
  rw [ht,List.nodup_append] at this
  exact fun hm=>this.2.2 p hm p (by simp) rfl
 ·intro hf
  rcases giveL_at h hp with ⟨h1,h2⟩|⟨h1,h2,h3⟩
  ·exact h.apart p hf (List.mem_of_getElem? h2)
  ·have:=(h.small p (.inl hf)).2;omega
 ·rcases giveL_at h hp with ⟨h1,h2⟩|⟨h1,h2,h3⟩
  ·exact (h.small p (.inr (List.mem_of_getElem? h2))).1
  ·omega
 ·rcases giveL_at h hp with ⟨h1,h2⟩|⟨h1,h2,h3⟩
  ·have:=(h.small p (.inr (List.mem_of_getElem? h2))).2;omega
  ·exact h3
 ·rcases giveL_at h hp with ⟨h1,h2⟩|⟨h1,h2,h3⟩
  ·exact h2
  ·omega
theorem giveL_few {ours:Int→Prop} {B:List Int} {W:GWork} (h:WOK ours B W):(giveL W).length≤40:=by
 have hn2:=h.next2
 have hnl:=h.nextL
 have h2:=h.disk.2.1
 have h3:∀x∈giveL W,x∈(List.range 40).map fun i:Nat=>(i:Int):=fun x hx=>by
  obtain ⟨i,hi,he⟩:=List.getElem_of_mem hx
  obtain ⟨_,_,h4,h5,_⟩:=giveL_page h (i:=i) (p:=x) (by rw [List.getElem?_eq_getElem hi,he])
  exact List.mem_map.2 ⟨x.toNat,List.mem_range.2 (by omega),by omega⟩
 have:=sub_len (giveL_nodup h) h3
 simpa using this
theorem giveN_small {ours:Int→Prop} {B:List Int} {W:GWork} (h:WOK ours B W) (hB:B.length≤1000) {i:Nat}:smallW (giveN W i):=by
 obtain ⟨h1,h2,h3,h4⟩:=h.smallW hB
 have h5:=h.few
 have h6:=giveL_few h
 refine ⟨h1,?_,h3,?_⟩
 ·simp only [giveN,List.length_drop];omega
 ·simp only [giveN,List.length_append,List.length_take];omega
end Go.Rx
