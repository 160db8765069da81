/-
  Part B5: lemmas on an evaluator over plain data of the model's code, plain laws on lists and numbers, or contracts of functions of the program; each lemma names its conditions.
-/
import Derived.Test.YtmeinhaecplpkaaGreatRB4
import Derived.Test.YtmeinhaecplpkaaGreatRP3

set_option linter.unusedSimpArgs false
set_option linter.unusedVariables false
namespace Go.Rx
open Go
attribute [local irreducible] Req Way WayG Sel callVC CallOK seqVC cVC loopVC nextK
theorem strs_snoc1 {l:List Key} {k:Key}:(strs l).take l.length++[[D.str k]]=strs (l++[k]):=by rw [strs_all];simp [strs]
def DropC (w:GWork) (page deep:Int) (key:Key) (b:Bool) (w':GWork) (p:Int):Prop:=
 CallOK Go.Proofs.Tryz.prog 237 [.ref 0 0,.d (.int .i64 page),.d (.int .i64 deep),.d (.str key)] [(0,.box (wV w))] [.ref 0 0,.dead,.dead,.dead]
  (.tup [.d (.int .i64 p),.d (.bool b)]) [(0,.box (wV w'))]
@[go_sem] def hr237:Hints
 |0=> [0,1,2,3]|1=> [0,1,2,3]|2=> [0,1,2,3,10,11]|3=> [0,1,2,3,10,11,12]|4=> [0]|5=> [0,1,2,3,10,12]|6=> [0,1,2,3,10,12,13]|7=> [0,1,2,3,10,12,13,14]|8=> [0]|9=> [0,1,2,3,10,12,13,14]|10=> [0,1,2,3,10,12,13]|11=> [0,1,10,12,13,15,16]|12=> [0]|13=> [0,1,10,12,13,15]|14=> [0,1,10,12,13,14]|15=> [0,1,10,12,13,14,17]|16=> [0,1,10,12,13,14,17]|17=> [0,1,10,12,13,14,17]|18=> [0,1,10,12,13,14,17]|19=> [0,1,10,12,13,14,17]|20=> [0,1,10,12,13,14,17]|21=> [0,1,10,12,13,14,17]|22=> [0,1,10,12,13,14,17]|23=> [0,1,10,12,13,14,17]|24=> [0,1,13]|25=> [0,1]|26=> [0]|27=> [0,1,13]|28=> [0,1,18,19]|29=> [0]|30=> [0,1,18,19]|31=> [0,19]|_=> []
@[go_sem] def hl237:Hints
 |15=> [0,1,10,12,13,14,17]|_=> []
attribute [go_sem] Go.Proofs.Tryz.results237
set_option maxRecDepth 100000 in
set_option maxHeartbeats 8000000 in
theorem cs_drop {ours:Int→Prop} {B:List Int} (hB:B.length≤1000) (key:Key):∀(f h:Nat) (w:GWork) (page:Int) (fk:Key) (ps:List GPair) (pg:List Int),f≤8→WOK ours B w→Tre (rdW w.fDisk) h page fk ps pg→pg.Nodup→(∀q∈pg,live B w q)→
  match dropU f w page key with
  |some (w',p)=>DropC w page (8 - (f:Int)) key true w' p
  |none=>∃w' p,DropC w page (8 - (f:Int)) key false w' p:=by
 intro f
 induction f with
 |zero=>
  intro h w page fk ps pg hf hw ht hn hl
  have hsw:=hw.smallW hB
  have d8:decide ((8:Int)≤8 - ((0:Nat):Int))=true:=rfl
  obtain ⟨n,C,hrd,hfk,hcand,hpg⟩:=tre_iff.1 ht
  have hrn:readNode (readPage w.fDisk page)=some n:=hrd
  have hok:=rdW_ok _ _ hrd
  have hk4:=hok.2.1
  refine ⟨w,0,?_⟩
  unfold DropC
  refine call_of tysZOK mixedZ Go.Proofs.Tryz.func237 (by kernel_rfl) rfl (np:=[true,false,false,false]) (by kernel_rfl) hr237 hl237 (by simp [Go.Proofs.Tryz.ntmps237]) ?_
  simp -implicitDefEqProofs only [go_sem,wV_eq]
  refine ks_ReadPage w.fDisk page (by have:=hsw.1.1;omega) (by have:=hsw.1.2;omega) rfl ?_
  simp -implicitDefEqProofs only [go_sem]
  refine ks_ReadNode (readPage w.fDisk page) (by have:=readPage_le hw.disk page;omega) rfl ?_
  rw [hrn]
  simp only [nodeV_some]
  simp -implicitDefEqProofs only [go_sem,d8]
  repeat ((first|refine rq ?_|fail);simp -implicitDefEqProofs only [go_sem,d8])
  refine ks_PlaceOf n key (by simp only [LEN];omega) (ls:=[]) (by simp -implicitDefEqProofs only [go_sem,GNode.cells_eq];first|done|rfl) ?_
  simp -implicitDefEqProofs only [go_sem,d8,wV_eq]
  repeat ((first|refine rq ?_|fail);simp -implicitDefEqProofs only [go_sem,d8,wV_eq])
 |succ f ih=>
  intro h w page fk ps pg hf hw ht hn hl
  have hsw:=hw.smallW hB
  have d8:decide ((8:Int)≤8 - ((f+1:Nat):Int))=false:=decide_eq_false (by omega)
  obtain ⟨n,C,hrd,hfk,hcand,hpg⟩:=tre_iff.1 ht
  have hrn:readNode (readPage w.fDisk page)=some n:=hrd
  have hok:=rdW_ok _ _ hrd
  have hk4:=hok.2.1
  cases h with
  |zero=>
   obtain ⟨hleaf,hps,hC⟩:=hcand
   have hvl:n.fVals.length=n.fKeys.length:=by have:=hok.2.2.2.2;rw [if_pos hleaf] at this;exact this.1
   rw [dropU,hrd]
   simp only [hleaf,if_true]
   rcases leaf_place (key:=key) hok hleaf with ⟨g1,g2⟩|⟨a,x,b,g1,g2,g3,g4,g5,g6,g7⟩
   ·rw [g1,if_pos (by omega)]
    have da:decide ((-1:Int)<0)=true:=rfl
    refine ⟨w,0,?_⟩
    unfold DropC
    refine call_of tysZOK mixedZ Go.Proofs.Tryz.func237 (by kernel_rfl) rfl (np:=[true,false,false,false]) (by kernel_rfl) hr237 hl237 (by simp [Go.Proofs.Tryz.ntmps237]) ?_
    simp -implicitDefEqProofs only [go_sem,wV_eq]
    refine ks_ReadPage w.fDisk page (by have:=hsw.1.1;omega) (by have:=hsw.1.2;omega) rfl ?_
    simp -implicitDefEqProofs only [go_sem]
    refine ks_ReadNode (readPage w.fDisk page) (by have:=readPage_le hw.disk page;omega) rfl ?_
    rw [hrn]
    simp only [nodeV_some]
    simp -implicitDefEqProofs only [go_sem,d8]
    repeat ((first|refine rq ?_|fail);simp -implicitDefEqProofs only [go_sem,d8])
    refine ks_PlaceOf n key (by simp only [LEN];omega) (ls:=[]) (by simp -implicitDefEqProofs only [go_sem,GNode.cells_eq];first|done|rfl) ?_
    rw [g1]
    simp -implicitDefEqProofs only [go_sem,d8,da,wV_eq]
    repeat ((first|refine rq ?_|fail);simp -implicitDefEqProofs only [go_sem,d8,da,wV_eq])
   ·rw [g2,if_neg (by omega),Int.toNat_natCast,g6]
    have da:decide ((a.length:Int)<0)=false:=decide_eq_false (by omega)
    have hal:a.length<n.fKeys.length:=by rw [←pairsOf_len hok hleaf,g1];simp
    have hka:n.fKeys[a.length]? =some x.fKey:=by
     have:=List.getElem?_eq_getElem hal
     rw [List.getD,this] at g6;rw [this];simpa using g6
    by_cases hxk:x.fKey=key
    ·rw [if_pos hxk]
     have dx:=decide_eq_true hxk
     have hLK:((pairsOf n).eraseIdx a.length).map (·.fKey)=n.fKeys.eraseIdx a.length:=by rw [map_erase,pairsOf_keys hok hleaf]
     have hLV:((pairsOf n).eraseIdx a.length).map (·.fVal)=n.fVals.eraseIdx a.length:=by
      rw [map_erase];congr 1
      simp only [pairsOf,List.map_map,Function.comp_def,pairOf];exact List.map_snd_zip (by omega)
     generalize hn':leafB ((pairsOf n).eraseIdx a.length)=n'
     have hK':n'.fKeys=n.fKeys.eraseIdx a.length:=by rw [←hn',←hLK];rfl
     have hV':n'.fVals=n.fVals.eraseIdx a.length:=by rw [←hn',←hLV];rfl
     have hI':n'.fKids=[]∧n'.fLeaf=true:=by rw [←hn'];exact ⟨rfl,rfl⟩
     have goal:DropC w page (8 - ((f+1:Nat):Int)) key (finR w n' page).1 (finR w n' page).2.1 (finR w n' page).2.2:=by
      unfold DropC
      refine call_of tysZOK mixedZ Go.Proofs.Tryz.func237 (by kernel_rfl) rfl (np:=[true,false,false,false]) (by kernel_rfl) hr237 hl237 (by simp [Go.Proofs.Tryz.ntmps237]) ?_
      simp -implicitDefEqProofs only [go_sem,wV_eq]
      refine ks_ReadPage w.fDisk page (by have:=hsw.1.1;omega) (by have:=hsw.1.2;omega) rfl ?_
      simp -implicitDefEqProofs only [go_sem]
      refine ks_ReadNode (readPage w.fDisk page) (by have:=readPage_le hw.disk page;omega) rfl ?_
      rw [hrn]
      simp only [nodeV_some]
      simp -implicitDefEqProofs only [go_sem,d8]
      repeat ((first|refine rq ?_|fail);simp -implicitDefEqProofs only [go_sem,d8])
      refine ks_PlaceOf n key (by simp only [LEN];omega) (ls:=[]) (by simp -implicitDefEqProofs only [go_sem,GNode.cells_eq];first|done|rfl) ?_
      rw [g2]
      simp -implicitDefEqProofs only [go_sem,d8,da,hleaf,lget_strs hka,dx,wV_eq]
      repeat ((first|refine rq ?_|fail);simp -implicitDefEqProofs only [go_sem,d8,da,hleaf,lget_strs hka,dx,wV_eq])
      refine loop_data (α:=Nat) (fun i=>⟨[(0,.ref 0 0),(1,.d (.int .i64 page)),(10,.ref 1 0),(12,.d (.int .i64 a.length)),(13,.ref 2 0),(14,.d (.int .i64 0)),(17,.d (.int .i64 i))],[(0,some (.box [.d (.sl (strs w.fDisk.fPages)),.d (.sl (GPutS w.fDisk.fLate)),.d (.int .i64 w.fNext),.d (.sl (ints w.fUsable)),.d (.sl (ints w.fGone)),.d (.sl (ints w.fFresh))])),(1,some (.box [.d (.bool true),.d (.sl (strs n.fKeys)),.d (.sl (strs n.fVals)),.d (.sl (ints n.fKids))])),(2,some (.box [.d (.bool true),.own 3 0 (delP n.fKeys a.length i).length,.own 4 0 (delP n.fVals a.length i).length,.own 5 0 0])),(3,some (.arr 1 (strs (delP n.fKeys a.length i)))),(4,some (.arr 1 (strs (delP n.fVals a.length i)))),(5,some (.arr 1 []))]⟩)
       (fun i=>i≤n.fKeys.length) (fun i=>n.fKeys.length - i) 0 (by rw [delP_zero,delP_zero];rfl) (Nat.zero_le _) ?_
      rintro i i1
      have dl1:=delP_len (l:=n.fKeys) (at_:=a.length) (i:=i)
      have dl2:=delP_len (l:=n.fVals) (at_:=a.length) (i:=i)
      simp -implicitDefEqProofs only [go_sem]
      (first|(refine way_dec (fun h55=>?_) (fun h55=>?_))|(refine way_ndec (fun h55=>?_) (fun h55=>?_))|(refine wayT_dec (fun h55=>?_) (fun h55=>?_))|(refine wayF_dec (fun h55=>?_) (fun h55=>?_))|(refine wayT_ndec (fun h55=>?_) (fun h55=>?_))|(refine wayF_ndec (fun h55=>?_) (fun h55=>?_))|(refine way_not (fun h55=>?_) (fun h55=>?_))|(refine way (fun h55=>?_) (fun h55=>?_))|(refine wayT (fun h55=>?_) (fun h55=>?_))|(refine wayF (fun h55=>?_) (fun h55=>?_)))
      ·obtain ⟨ki,hki⟩:=some_at h55
       obtain ⟨vi,hvi⟩:∃vi,n.fVals[i]? =some vi:=⟨_,List.getElem?_eq_getElem (by omega)⟩
       by_cases hia:i=a.length
       ·subst hia
        have dia:decide (((a.length:Nat):Int)=(a.length:Int))=true:=decide_eq_true rfl
        simp -implicitDefEqProofs only [go_sem,dia]
        repeat ((first|refine rq ?_|refine way (fun h=>absurd h (by simp)) (fun _=>?_)|refine way (fun _=>?_) (fun h=>absurd h (by simp))|fail);simp -implicitDefEqProofs only [go_sem,dia])
        rw [wrap_succ (by simp only [LEN];omega)]
        exact next_data (a.length+1) (by rw [delP_at,delP_at]) (by omega) (by omega)
       ·have dia:decide ((i:Int)=(a.length:Int))=false:=decide_eq_false (by omega)
        have hJ:=delP_ne (at_:=a.length) hki hia
        have hJ2:=delP_ne (at_:=a.length) hvi hia
        simp -implicitDefEqProofs only [go_sem,dia,lget_strs hki,lget_strs hvi]
        repeat ((first|refine rq ?_|refine way (fun h=>absurd h (by simp)) (fun _=>?_)|refine way (fun _=>?_) (fun h=>absurd h (by simp))|fail);simp -implicitDefEqProofs only [go_sem,dia,lget_strs hki,lget_strs hvi,strs_snoc1])
        rw [wrap_succ (by simp only [LEN];omega)]
        refine next_data (i+1) ?_ (by omega) (by omega)
        simp only [hJ,hJ2,List.length_append,List.length_cons,List.length_nil]
      ·have hi:i=n.fKeys.length:=by omega
       subst hi
       have e1:delP n.fKeys a.length n.fKeys.length=n'.fKeys:=by rw [delP_end hal,hK']
       have e2:delP n.fVals a.length n.fKeys.length=n'.fVals:=by rw [←hvl,delP_end (by omega),hV']
       rw [e1,e2]
       rw [e1] at dl1
       rw [e2] at dl2
       have hcell:n'.cells=[.bool true,.sl (strs n'.fKeys),.sl (strs n'.fVals),.sl []]:=by rw [GNode.cells_eq,hI'.1,hI'.2];rfl
       have hlK:n'.fKeys.length≤LEN:=by simp only [LEN];omega
       have hlV:n'.fVals.length≤LEN:=by simp only [LEN];omega
       have hlI:n'.fKids.length≤LEN:=by rw [hI'.1];simp
       unfold finR
       by_cases hk0:n'.fKeys=[]
       ·have d0:decide (((n'.fKeys.length:Nat):Int)=0)=true:=decide_eq_true (by rw [hk0];rfl)
        rw [if_pos hk0]
        have hde:=dropS_eq (p:=page) hw
        simp -implicitDefEqProofs only [go_sem,d0]
        repeat ((first|refine rq ?_|refine way (fun h=>absurd h (by simp)) (fun _=>?_)|refine way (fun _=>?_) (fun h=>absurd h (by simp))|fail);simp -implicitDefEqProofs only [go_sem,d0])
        refine ks_DropPage w page hsw (by simp -implicitDefEqProofs only [go_sem,GWork.cells_eq];first|done|rfl) ?_
        rw [hde]
        simp -implicitDefEqProofs only [go_sem,GWork.cells_eq,wV_eq]
        repeat ((first|refine rq ?_|fail);simp -implicitDefEqProofs only [go_sem,GWork.cells_eq,wV_eq])
       ·have d0:decide (((n'.fKeys.length:Nat):Int)=0)=false:=decide_eq_false (by have:=List.length_pos_iff.2 hk0;omega)
        rw [if_neg hk0]
        simp -implicitDefEqProofs only [go_sem,d0]
        repeat ((first|refine rq ?_|refine way (fun h=>absurd h (by simp)) (fun _=>?_)|refine way (fun _=>?_) (fun h=>absurd h (by simp))|fail);simp -implicitDefEqProofs only [go_sem,d0])
        refine ktake (xs:=[.agg w.cells,.agg n'.cells]) (cs_PutNodeF w n' hsw hlK hlV hlI) (by simp -implicitDefEqProofs only [go_sem,GWork.cells_eq,hcell];first|done|rfl) ?_
        cases hp:putN w n' with
        |none=>
         have hW:putW w n'=(w,0):=by rw [putW,hp]
         have dz:decide ((0:Int)=0)=true:=rfl
         rw [hW]
         simp -implicitDefEqProofs only [go_sem,dz,GWork.cells_eq,wV_eq]
         repeat ((first|refine rq ?_|refine way (fun h=>absurd h (by simp)) (fun _=>?_)|refine way (fun _=>?_) (fun h=>absurd h (by simp))|fail);simp -implicitDefEqProofs only [go_sem,dz,GWork.cells_eq,wV_eq])
        |some q=>
         obtain ⟨u2,pg2⟩:=q
         have hW:putW w n'=(u2,pg2):=by rw [putW,hp]
         have dp:decide (pg2=0)=false:=decide_eq_false (putN_page hp)
         have hw2:=(putN_spec hw hp).ok
         have hde:=dropS_eq (p:=page) hw2
         rw [hW]
         simp -implicitDefEqProofs only [go_sem,dp,GWork.cells_eq,wV_eq]
         repeat ((first|refine rq ?_|refine way (fun h=>absurd h (by simp)) (fun _=>?_)|refine way (fun _=>?_) (fun h=>absurd h (by simp))|fail);simp -implicitDefEqProofs only [go_sem,dp,GWork.cells_eq,wV_eq])
         refine ks_DropPage u2 page (hw2.smallW hB) (by simp -implicitDefEqProofs only [go_sem,GWork.cells_eq];first|done|rfl) ?_
         rw [hde]
         simp -implicitDefEqProofs only [go_sem,GWork.cells_eq,wV_eq]
         repeat ((first|refine rq ?_|fail);simp -implicitDefEqProofs only [go_sem,GWork.cells_eq,wV_eq])
     have he:=finR_eq (w:=w) (n:=n') (page:=page)
     cases hfu:finU w n' page with
     |none=>rw [hfu] at he;simp only at he;rw [he] at goal;exact ⟨_,_,goal⟩
     |some r=>rw [hfu] at he;simp only at he;rw [he] at goal;exact goal
    ·rw [if_neg hxk]
     have dx:=decide_eq_false hxk
     refine ⟨w,0,?_⟩
     unfold DropC
     refine call_of tysZOK mixedZ Go.Proofs.Tryz.func237 (by kernel_rfl) rfl (np:=[true,false,false,false]) (by kernel_rfl) hr237 hl237 (by simp [Go.Proofs.Tryz.ntmps237]) ?_
     simp -implicitDefEqProofs only [go_sem,wV_eq]
     refine ks_ReadPage w.fDisk page (by have:=hsw.1.1;omega) (by have:=hsw.1.2;omega) rfl ?_
     simp -implicitDefEqProofs only [go_sem]
     refine ks_ReadNode (readPage w.fDisk page) (by have:=readPage_le hw.disk page;omega) rfl ?_
     rw [hrn]
     simp only [nodeV_some]
     simp -implicitDefEqProofs only [go_sem,d8]
     repeat ((first|refine rq ?_|fail);simp -implicitDefEqProofs only [go_sem,d8])
     refine ks_PlaceOf n key (by simp only [LEN];omega) (ls:=[]) (by simp -implicitDefEqProofs only [go_sem,GNode.cells_eq];first|done|rfl) ?_
     rw [g2]
     simp -implicitDefEqProofs only [go_sem,d8,da,hleaf,lget_strs hka,dx,wV_eq]
     repeat ((first|refine rq ?_|fail);simp -implicitDefEqProofs only [go_sem,d8,da,hleaf,lget_strs hka,dx,wV_eq])
     trace_state
  |succ h=>
   obtain ⟨hleaf,ks,h4,h5,h6,h7,h8,h9⟩:=hcand
   have hkl:n.fKids.length=n.fKeys.length:=by have:=hok.2.2.2.2;rw [if_neg (by rw [hleaf];simp)] at this;exact this.1
   rw [dropU,hrd]
   simp only [hleaf,Bool.false_eq_true,if_false]
   rcases branch_place (key:=key) h4 h5 with ⟨g1,g2⟩|⟨pre,s,post,g1,g2,g3,g4,g5⟩
   ·rw [g1,if_pos (by omega)]
    have da:decide ((-1:Int)<0)=true:=rfl
    refine ⟨w,0,?_⟩
    unfold DropC
    refine call_of tysZOK mixedZ Go.Proofs.Tryz.func237 (by kernel_rfl) rfl (np:=[true,false,false,false]) (by kernel_rfl) hr237 hl237 (by simp [Go.Proofs.Tryz.ntmps237]) ?_
    simp -implicitDefEqProofs only [go_sem,wV_eq]
    refine ks_ReadPage w.fDisk page (by have:=hsw.1.1;omega) (by have:=hsw.1.2;omega) rfl ?_
    simp -implicitDefEqProofs only [go_sem]
    refine ks_ReadNode (readPage w.fDisk page) (by have:=readPage_le hw.disk page;omega) rfl ?_
    rw [hrn]
    simp only [nodeV_some]
    simp -implicitDefEqProofs only [go_sem,d8]
    repeat ((first|refine rq ?_|fail);simp -implicitDefEqProofs only [go_sem,d8])
    refine ks_PlaceOf n key (by simp only [LEN];omega) (ls:=[]) (by simp -implicitDefEqProofs only [go_sem,GNode.cells_eq];first|done|rfl) ?_
    rw [g1]
    simp -implicitDefEqProofs only [go_sem,d8,da,wV_eq]
    repeat ((first|refine rq ?_|fail);simp -implicitDefEqProofs only [go_sem,d8,da,wV_eq])
   ·rw [g2,if_neg (by omega),Int.toNat_natCast,g5]
    have da:decide ((pre.length:Int)<0)=false:=decide_eq_false (by omega)
    have hs:s∈ks:=by rw [g1];simp
    rw [hpg,h9] at hn hl
    obtain ⟨n1,n2⟩:=List.nodup_cons.1 hn
    have hsp:∀q∈s.pages,q∈ks.flatMap Sub.pages:=fun q hq=>List.mem_flatMap.2 ⟨s,hs,hq⟩
    have hplen:pre.length<n.fKeys.length:=by rw [h4,g1];simp
    have hkid:n.fKids[pre.length]? =some s.page:=by rw [h5,g1];simp
    have hih:=ih h w s.page s.fst s.pairs s.pages (by omega) hw (h6 s hs) (nodup_flat_mem n2 hs) (fun q hq=>hl q (List.mem_cons_of_mem _ (hsp q hq)))
    have e8w:IntKind.i64.wrap (8 - (f:Int))=8 - (f:Int):=wrap_int (by omega) (by omega)
    have e8:(8:Int) - ((f+1:Nat):Int)+1=8 - (f:Int):=by omega
    cases hu:dropU f w s.page key with
    |none=>
     rw [hu] at hih
     obtain ⟨w1,p1,hih⟩:=hih
     refine ⟨w1,0,?_⟩
     unfold DropC at hih
     unfold DropC
     refine call_of tysZOK mixedZ Go.Proofs.Tryz.func237 (by kernel_rfl) rfl (np:=[true,false,false,false]) (by kernel_rfl) hr237 hl237 (by simp [Go.Proofs.Tryz.ntmps237]) ?_
     simp -implicitDefEqProofs only [go_sem,wV_eq]
     refine ks_ReadPage w.fDisk page (by have:=hsw.1.1;omega) (by have:=hsw.1.2;omega) rfl ?_
     simp -implicitDefEqProofs only [go_sem]
     refine ks_ReadNode (readPage w.fDisk page) (by have:=readPage_le hw.disk page;omega) rfl ?_
     rw [hrn]
     simp only [nodeV_some]
     simp -implicitDefEqProofs only [go_sem,d8]
     repeat ((first|refine rq ?_|fail);simp -implicitDefEqProofs only [go_sem,d8])
     refine ks_PlaceOf n key (by simp only [LEN];omega) (ls:=[]) (by simp -implicitDefEqProofs only [go_sem,GNode.cells_eq];first|done|rfl) ?_
     rw [g2]
     simp -implicitDefEqProofs only [go_sem,d8,da,hleaf,lget_ints hkid,e8,wV_eq]
     repeat ((first|refine rq ?_|fail);simp -implicitDefEqProofs only [go_sem,d8,da,hleaf,lget_ints hkid,e8,wV_eq])
     refine call_boxO false (xs:=[.int .i64 s.page,.int .i64 (8 - (f:Int)),.str key]) hih rfl rfl rfl (by simp -implicitDefEqProofs only [go_sem,e8w];first|done|rfl) rfl rfl rfl rfl (.inr (.inl rfl)) ?_
     simp -implicitDefEqProofs only [go_sem,wV_eq]
     repeat ((first|refine rq ?_|fail);simp -implicitDefEqProofs only [go_sem,wV_eq])
    |some r=>
     obtain ⟨w1,k⟩:=r
     rw [hu] at hih
     simp only at hih ⊢
     obtain ⟨hin,pgd,rd1⟩:=dropU_spec hw (h6 s hs) (nodup_flat_mem n2 hs) (fun q hq=>hl q (List.mem_cons_of_mem _ (hsp q hq))) hu
     have hw1:=rd1.ok
     have hsw1:=hw1.smallW hB
     have hkey:∃kx,n.fKeys[pre.length]? =some kx:=⟨_,List.getElem?_eq_getElem hplen⟩
     obtain ⟨kx,hkx⟩:=hkey
     have hes:(n.fKeys.zip n.fKids)[pre.length]? =some (kx,s.page):=zip_at hkx hkid
     have hged:((n.fKeys.zip n.fKids).getD pre.length ([],0)).1=kx:=by rw [List.getD,hes];rfl
     rw [hged]
     have hesf:=zip_fst hkl
     have hess:=zip_snd hkl
     have goal:DropC w page (8 - ((f+1:Nat):Int)) key (finR w1 (branchOf (if k=0 then (n.fKeys.zip n.fKids).eraseIdx pre.length else (n.fKeys.zip n.fKids).set pre.length (kx,k))) page).1
       (finR w1 (branchOf (if k=0 then (n.fKeys.zip n.fKids).eraseIdx pre.length else (n.fKeys.zip n.fKids).set pre.length (kx,k))) page).2.1
       (finR w1 (branchOf (if k=0 then (n.fKeys.zip n.fKids).eraseIdx pre.length else (n.fKeys.zip n.fKids).set pre.length (kx,k))) page).2.2:=by
      unfold DropC at hih
      by_cases hk:k=0
      ·have dk:=decide_eq_true hk
       rw [if_pos hk]
       generalize hn':branchOf ((n.fKeys.zip n.fKids).eraseIdx pre.length)=n'
       have hK':n'.fKeys=n.fKeys.eraseIdx pre.length:=by rw [←hn'];show ((n.fKeys.zip n.fKids).eraseIdx pre.length).map (·.1)=_;rw [map_erase,hesf]
       have hI':n'.fKids=n.fKids.eraseIdx pre.length:=by rw [←hn'];show ((n.fKeys.zip n.fKids).eraseIdx pre.length).map (·.2)=_;rw [map_erase,hess]
       have hV':n'.fVals=[]∧n'.fLeaf=false:=by rw [←hn'];exact ⟨rfl,rfl⟩
       unfold DropC
       refine call_of tysZOK mixedZ Go.Proofs.Tryz.func237 (by kernel_rfl) rfl (np:=[true,false,false,false]) (by kernel_rfl) hr237 hl237 (by simp [Go.Proofs.Tryz.ntmps237]) ?_
       simp -implicitDefEqProofs only [go_sem,wV_eq]
       refine ks_ReadPage w.fDisk page (by have:=hsw.1.1;omega) (by have:=hsw.1.2;omega) rfl ?_
       simp -implicitDefEqProofs only [go_sem]
       refine ks_ReadNode (readPage w.fDisk page) (by have:=readPage_le hw.disk page;omega) rfl ?_
       rw [hrn]
       simp only [nodeV_some]
       simp -implicitDefEqProofs only [go_sem,d8]
       repeat ((first|refine rq ?_|fail);simp -implicitDefEqProofs only [go_sem,d8])
       refine ks_PlaceOf n key (by simp only [LEN];omega) (ls:=[]) (by simp -implicitDefEqProofs only [go_sem,GNode.cells_eq];first|done|rfl) ?_
       rw [g2]
       simp -implicitDefEqProofs only [go_sem,d8,da,hleaf,lget_ints hkid,e8,wV_eq]
       repeat ((first|refine rq ?_|fail);simp -implicitDefEqProofs only [go_sem,d8,da,hleaf,lget_ints hkid,e8,wV_eq])
       refine call_boxO false (xs:=[.int .i64 s.page,.int .i64 (8 - (f:Int)),.str key]) hih rfl rfl rfl (by simp -implicitDefEqProofs only [go_sem,e8w];first|done|rfl) rfl rfl rfl rfl (.inr (.inl rfl)) ?_
       simp -implicitDefEqProofs only [go_sem,wV_eq]
       repeat ((first|refine rq ?_|fail);simp -implicitDefEqProofs only [go_sem,wV_eq])
       refine loop_data (α:=Nat) (fun i=>⟨[(0,.ref 0 0),(1,.d (.int .i64 page)),(10,.ref 1 0),(12,.d (.int .i64 pre.length)),(13,.ref 2 0),(14,.d (.int .i64 k)),(17,.d (.int .i64 i))],[(0,some (.box [.d (.sl (strs w1.fDisk.fPages)),.d (.sl (GPutS w1.fDisk.fLate)),.d (.int .i64 w1.fNext),.d (.sl (ints w1.fUsable)),.d (.sl (ints w1.fGone)),.d (.sl (ints w1.fFresh))])),(1,some (.box [.d (.bool false),.d (.sl (strs n.fKeys)),.d (.sl (strs n.fVals)),.d (.sl (ints n.fKids))])),(2,some (.box [.d (.bool false),.own 3 0 (delP n.fKeys pre.length i).length,.own 4 0 0,.own 5 0 (delP n.fKids pre.length i).length])),(3,some (.arr 1 (strs (delP n.fKeys pre.length i)))),(4,some (.arr 1 [])),(5,some (.arr 1 (ints (delP n.fKids pre.length i))))]⟩)
        (fun i=>i≤n.fKeys.length) (fun i=>n.fKeys.length - i) 0 (by rw [delP_zero,delP_zero];rfl) (Nat.zero_le _) ?_
       rintro i i1
       have dl1:=delP_len (l:=n.fKeys) (at_:=pre.length) (i:=i)
       have dl2:=delP_len (l:=n.fKids) (at_:=pre.length) (i:=i)
       simp -implicitDefEqProofs only [go_sem]
       (first|(refine way_dec (fun h55=>?_) (fun h55=>?_))|(refine way_ndec (fun h55=>?_) (fun h55=>?_))|(refine wayT_dec (fun h55=>?_) (fun h55=>?_))|(refine wayF_dec (fun h55=>?_) (fun h55=>?_))|(refine wayT_ndec (fun h55=>?_) (fun h55=>?_))|(refine wayF_ndec (fun h55=>?_) (fun h55=>?_))|(refine way_not (fun h55=>?_) (fun h55=>?_))|(refine way (fun h55=>?_) (fun h55=>?_))|(refine wayT (fun h55=>?_) (fun h55=>?_))|(refine wayF (fun h55=>?_) (fun h55=>?_)))
       ·obtain ⟨ki,hki⟩:=some_at h55
        obtain ⟨vi,hvi⟩:∃vi,n.fKids[i]? =some vi:=⟨_,List.getElem?_eq_getElem (by omega)⟩
        by_cases hia:i=pre.length
        ·subst hia
         have dia:decide (((pre.length:Nat):Int)=(pre.length:Int))=true:=decide_eq_true rfl
         simp -implicitDefEqProofs only [go_sem,dia,dk]
         repeat ((first|refine rq ?_|refine way (fun h=>absurd h (by simp)) (fun _=>?_)|refine way (fun _=>?_) (fun h=>absurd h (by simp))|fail);simp -implicitDefEqProofs only [go_sem,dia,dk])
         rw [wrap_succ (by simp only [LEN];omega)]
         exact next_data (pre.length+1) (by rw [delP_at,delP_at]) (by omega) (by omega)
        ·have dia:decide ((i:Int)=(pre.length:Int))=false:=decide_eq_false (by omega)
         have hJ:=delP_ne (at_:=pre.length) hki hia
         have hJ2:=delP_ne (at_:=pre.length) hvi hia
         simp -implicitDefEqProofs only [go_sem,dia,dk,lget_strs hki,lget_ints hvi]
         repeat ((first|refine rq ?_|refine way (fun h=>absurd h (by simp)) (fun _=>?_)|refine way (fun _=>?_) (fun h=>absurd h (by simp))|fail);simp -implicitDefEqProofs only [go_sem,dia,dk,lget_strs hki,lget_ints hvi,strs_snoc1,ints_snoc1])
         rw [wrap_succ (by simp only [LEN];omega)]
         refine next_data (i+1) ?_ (by omega) (by omega)
         simp only [hJ,hJ2,List.length_append,List.length_cons,List.length_nil]
       ·have hi:i=n.fKeys.length:=by omega
        subst hi
        have e1:delP n.fKeys pre.length n.fKeys.length=n'.fKeys:=by rw [delP_end hplen,hK']
        have e2:delP n.fKids pre.length n.fKeys.length=n'.fKids:=by rw [←hkl,delP_end (by omega),hI']
        rw [e1,e2]
        rw [e1] at dl1
        rw [e2] at dl2
        have hcell:n'.cells=[.bool false,.sl (strs n'.fKeys),.sl [],.sl (ints n'.fKids)]:=by rw [GNode.cells_eq,hV'.1,hV'.2];rfl
        have hlK:n'.fKeys.length≤LEN:=by simp only [LEN];omega
        have hlI:n'.fKids.length≤LEN:=by simp only [LEN];omega
        have hlV:n'.fVals.length≤LEN:=by rw [hV'.1];simp
        unfold finR
        by_cases hk0:n'.fKeys=[]
        ·have d0:decide (((n'.fKeys.length:Nat):Int)=0)=true:=decide_eq_true (by rw [hk0];rfl)
         rw [if_pos hk0]
         have hde:=dropS_eq (p:=page) hw1
         simp -implicitDefEqProofs only [go_sem,d0]
         repeat ((first|refine rq ?_|refine way (fun h=>absurd h (by simp)) (fun _=>?_)|refine way (fun _=>?_) (fun h=>absurd h (by simp))|fail);simp -implicitDefEqProofs only [go_sem,d0])
         refine ks_DropPage w1 page hsw1 (by simp -implicitDefEqProofs only [go_sem,GWork.cells_eq];first|done|rfl) ?_
         rw [hde]
         simp -implicitDefEqProofs only [go_sem,GWork.cells_eq,wV_eq]
         repeat ((first|refine rq ?_|fail);simp -implicitDefEqProofs only [go_sem,GWork.cells_eq,wV_eq])
        ·have d0:decide (((n'.fKeys.length:Nat):Int)=0)=false:=decide_eq_false (by have:=List.length_pos_iff.2 hk0;omega)
         rw [if_neg hk0]
         simp -implicitDefEqProofs only [go_sem,d0]
         repeat ((first|refine rq ?_|refine way (fun h=>absurd h (by simp)) (fun _=>?_)|refine way (fun _=>?_) (fun h=>absurd h (by simp))|fail);simp -implicitDefEqProofs only [go_sem,d0])
         refine ktake (xs:=[.agg w1.cells,.agg n'.cells]) (cs_PutNodeF w1 n' hsw1 hlK hlV hlI) (by simp -implicitDefEqProofs only [go_sem,GWork.cells_eq,hcell];first|done|rfl) ?_
         cases hp:putN w1 n' with
         |none=>
          have hW:putW w1 n'=(w1,0):=by rw [putW,hp]
          have dz:decide ((0:Int)=0)=true:=rfl
          rw [hW]
          simp -implicitDefEqProofs only [go_sem,dz,GWork.cells_eq,wV_eq]
          repeat ((first|refine rq ?_|refine way (fun h=>absurd h (by simp)) (fun _=>?_)|refine way (fun _=>?_) (fun h=>absurd h (by simp))|fail);simp -implicitDefEqProofs only [go_sem,dz,GWork.cells_eq,wV_eq])
         |some q=>
          obtain ⟨u2,pg2⟩:=q
          have hW:putW w1 n'=(u2,pg2):=by rw [putW,hp]
          have dp:decide (pg2=0)=false:=decide_eq_false (putN_page hp)
          have hw2:=(putN_spec hw1 hp).ok
          have hde:=dropS_eq (p:=page) hw2
          rw [hW]
          simp -implicitDefEqProofs only [go_sem,dp,GWork.cells_eq,wV_eq]
          repeat ((first|refine rq ?_|refine way (fun h=>absurd h (by simp)) (fun _=>?_)|refine way (fun _=>?_) (fun h=>absurd h (by simp))|fail);simp -implicitDefEqProofs only [go_sem,dp,GWork.cells_eq,wV_eq])
          refine ks_DropPage u2 page (hw2.smallW hB) (by simp -implicitDefEqProofs only [go_sem,GWork.cells_eq];first|done|rfl) ?_
          rw [hde]
          simp -implicitDefEqProofs only [go_sem,GWork.cells_eq,wV_eq]
          repeat ((first|refine rq ?_|fail);simp -implicitDefEqProofs only [go_sem,GWork.cells_eq,wV_eq])
      ·have dk:=decide_eq_false hk
       rw [if_neg hk]
       generalize hn':branchOf ((n.fKeys.zip n.fKids).set pre.length (kx,k))=n'
       have hK':n'.fKeys=n.fKeys:=by rw [←hn'];show ((n.fKeys.zip n.fKids).set pre.length (kx,k)).map (·.1)=_;rw [List.map_set,hesf];exact set_same hkx
       have hI':n'.fKids=n.fKids.set pre.length k:=by rw [←hn'];show ((n.fKeys.zip n.fKids).set pre.length (kx,k)).map (·.2)=_;rw [List.map_set,hess]
       have hV':n'.fVals=[]∧n'.fLeaf=false:=by rw [←hn'];exact ⟨rfl,rfl⟩
       have hIl:n'.fKids.length=n.fKeys.length:=by rw [hI',List.length_set,hkl]
       unfold DropC
       refine call_of tysZOK mixedZ Go.Proofs.Tryz.func237 (by kernel_rfl) rfl (np:=[true,false,false,false]) (by kernel_rfl) hr237 hl237 (by simp [Go.Proofs.Tryz.ntmps237]) ?_
       simp -implicitDefEqProofs only [go_sem,wV_eq]
       refine ks_ReadPage w.fDisk page (by have:=hsw.1.1;omega) (by have:=hsw.1.2;omega) rfl ?_
       simp -implicitDefEqProofs only [go_sem]
       refine ks_ReadNode (readPage w.fDisk page) (by have:=readPage_le hw.disk page;omega) rfl ?_
       rw [hrn]
       simp only [nodeV_some]
       simp -implicitDefEqProofs only [go_sem,d8]
       repeat ((first|refine rq ?_|fail);simp -implicitDefEqProofs only [go_sem,d8])
       refine ks_PlaceOf n key (by simp only [LEN];omega) (ls:=[]) (by simp -implicitDefEqProofs only [go_sem,GNode.cells_eq];first|done|rfl) ?_
       rw [g2]
       simp -implicitDefEqProofs only [go_sem,d8,da,hleaf,lget_ints hkid,e8,wV_eq]
       repeat ((first|refine rq ?_|fail);simp -implicitDefEqProofs only [go_sem,d8,da,hleaf,lget_ints hkid,e8,wV_eq])
       refine call_boxO false (xs:=[.int .i64 s.page,.int .i64 (8 - (f:Int)),.str key]) hih rfl rfl rfl (by simp -implicitDefEqProofs only [go_sem,e8w];first|done|rfl) rfl rfl rfl rfl (.inr (.inl rfl)) ?_
       simp -implicitDefEqProofs only [go_sem,wV_eq]
       repeat ((first|refine rq ?_|fail);simp -implicitDefEqProofs only [go_sem,wV_eq])
       refine loop_data (α:=Nat) (fun i=>⟨[(0,.ref 0 0),(1,.d (.int .i64 page)),(10,.ref 1 0),(12,.d (.int .i64 pre.length)),(13,.ref 2 0),(14,.d (.int .i64 k)),(17,.d (.int .i64 i))],[(0,some (.box [.d (.sl (strs w1.fDisk.fPages)),.d (.sl (GPutS w1.fDisk.fLate)),.d (.int .i64 w1.fNext),.d (.sl (ints w1.fUsable)),.d (.sl (ints w1.fGone)),.d (.sl (ints w1.fFresh))])),(1,some (.box [.d (.bool false),.d (.sl (strs n.fKeys)),.d (.sl (strs n.fVals)),.d (.sl (ints n.fKids))])),(2,some (.box [.d (.bool false),.own 3 0 (n.fKeys.take i).length,.own 4 0 0,.own 5 0 (n'.fKids.take i).length])),(3,some (.arr 1 (strs (n.fKeys.take i)))),(4,some (.arr 1 [])),(5,some (.arr 1 (ints (n'.fKids.take i))))]⟩)
        (fun i=>i≤n.fKeys.length) (fun i=>n.fKeys.length - i) 0 rfl (Nat.zero_le _) ?_
       rintro i i1
       have dl1:(n.fKeys.take i).length≤n.fKeys.length:=by simp;omega
       have dl2:(n'.fKids.take i).length≤n.fKeys.length:=by simp;omega
       simp -implicitDefEqProofs only [go_sem]
       (first|(refine way_dec (fun h55=>?_) (fun h55=>?_))|(refine way_ndec (fun h55=>?_) (fun h55=>?_))|(refine wayT_dec (fun h55=>?_) (fun h55=>?_))|(refine wayF_dec (fun h55=>?_) (fun h55=>?_))|(refine wayT_ndec (fun h55=>?_) (fun h55=>?_))|(refine wayF_ndec (fun h55=>?_) (fun h55=>?_))|(refine way_not (fun h55=>?_) (fun h55=>?_))|(refine way (fun h55=>?_) (fun h55=>?_))|(refine wayT (fun h55=>?_) (fun h55=>?_))|(refine wayF (fun h55=>?_) (fun h55=>?_)))
       ·obtain ⟨ki,hki⟩:=some_at h55
        obtain ⟨vi,hvi⟩:∃vi,n.fKids[i]? =some vi:=⟨_,List.getElem?_eq_getElem (by omega)⟩
        have hJ:=take_snoc hki
        by_cases hia:i=pre.length
        ·subst hia
         have dia:decide (((pre.length:Nat):Int)=(pre.length:Int))=true:=decide_eq_true rfl
         have hvk:n'.fKids[pre.length]? =some k:=by rw [hI',List.getElem?_set_self (by omega)]
         have hJ2:=take_snoc hvk
         simp -implicitDefEqProofs only [go_sem,dia,dk,lget_strs hki,lget_ints hvi]
         repeat ((first|refine rq ?_|refine way (fun h=>absurd h (by simp)) (fun _=>?_)|refine way (fun _=>?_) (fun h=>absurd h (by simp))|fail);simp -implicitDefEqProofs only [go_sem,dia,dk,lget_strs hki,lget_ints hvi,strs_snoc1,ints_snoc1])
         rw [wrap_succ (by simp only [LEN];omega)]
         refine next_data (pre.length+1) ?_ (by omega) (by omega)
         simp only [hJ,hJ2,List.length_append,List.length_cons,List.length_nil]
        ·have dia:decide ((i:Int)=(pre.length:Int))=false:=decide_eq_false (by omega)
         have hvk:n'.fKids[i]? =some vi:=by rw [hI',List.getElem?_set_ne (by omega)];exact hvi
         have hJ2:=take_snoc hvk
         simp -implicitDefEqProofs only [go_sem,dia,dk,lget_strs hki,lget_ints hvi]
         repeat ((first|refine rq ?_|refine way (fun h=>absurd h (by simp)) (fun _=>?_)|refine way (fun _=>?_) (fun h=>absurd h (by simp))|fail);simp -implicitDefEqProofs only [go_sem,dia,dk,lget_strs hki,lget_ints hvi,strs_snoc1,ints_snoc1])
         rw [wrap_succ (by simp only [LEN];omega)]
         refine next_data (i+1) ?_ (by omega) (by omega)
         simp only [hJ,hJ2,List.length_append,List.length_cons,List.length_nil]
       ·have hi:i=n.fKeys.length:=by omega
        subst hi
        have e1:n.fKeys.take n.fKeys.length=n'.fKeys:=by rw [List.take_length,hK']
        have e2:n'.fKids.take n.fKeys.length=n'.fKids:=List.take_of_length_le (by omega)
        rw [e1,e2]
        rw [e1] at dl1
        rw [e2] at dl2
        have hcell:n'.cells=[.bool false,.sl (strs n'.fKeys),.sl [],.sl (ints n'.fKids)]:=by rw [GNode.cells_eq,hV'.1,hV'.2];rfl
        have hlK:n'.fKeys.length≤LEN:=by simp only [LEN];omega
        have hlI:n'.fKids.length≤LEN:=by simp only [LEN];omega
        have hlV:n'.fVals.length≤LEN:=by rw [hV'.1];simp
        unfold finR
        by_cases hk0:n'.fKeys=[]
        ·have d0:decide (((n'.fKeys.length:Nat):Int)=0)=true:=decide_eq_true (by rw [hk0];rfl)
         rw [if_pos hk0]
         have hde:=dropS_eq (p:=page) hw1
         simp -implicitDefEqProofs only [go_sem,d0]
         repeat ((first|refine rq ?_|refine way (fun h=>absurd h (by simp)) (fun _=>?_)|refine way (fun _=>?_) (fun h=>absurd h (by simp))|fail);simp -implicitDefEqProofs only [go_sem,d0])
         refine ks_DropPage w1 page hsw1 (by simp -implicitDefEqProofs only [go_sem,GWork.cells_eq];first|done|rfl) ?_
         rw [hde]
         simp -implicitDefEqProofs only [go_sem,GWork.cells_eq,wV_eq]
         repeat ((first|refine rq ?_|fail);simp -implicitDefEqProofs only [go_sem,GWork.cells_eq,wV_eq])
        ·have d0:decide (((n'.fKeys.length:Nat):Int)=0)=false:=decide_eq_false (by have:=List.length_pos_iff.2 hk0;omega)
         rw [if_neg hk0]
         simp -implicitDefEqProofs only [go_sem,d0]
         repeat ((first|refine rq ?_|refine way (fun h=>absurd h (by simp)) (fun _=>?_)|refine way (fun _=>?_) (fun h=>absurd h (by simp))|fail);simp -implicitDefEqProofs only [go_sem,d0])
         refine ktake (xs:=[.agg w1.cells,.agg n'.cells]) (cs_PutNodeF w1 n' hsw1 hlK hlV hlI) (by simp -implicitDefEqProofs only [go_sem,GWork.cells_eq,hcell];first|done|rfl) ?_
         cases hp:putN w1 n' with
         |none=>
          have hW:putW w1 n'=(w1,0):=by rw [putW,hp]
          have dz:decide ((0:Int)=0)=true:=rfl
          rw [hW]
          simp -implicitDefEqProofs only [go_sem,dz,GWork.cells_eq,wV_eq]
          repeat ((first|refine rq ?_|refine way (fun h=>absurd h (by simp)) (fun _=>?_)|refine way (fun _=>?_) (fun h=>absurd h (by simp))|fail);simp -implicitDefEqProofs only [go_sem,dz,GWork.cells_eq,wV_eq])
         |some q=>
          obtain ⟨u2,pg2⟩:=q
          have hW:putW w1 n'=(u2,pg2):=by rw [putW,hp]
          have dp:decide (pg2=0)=false:=decide_eq_false (putN_page hp)
          have hw2:=(putN_spec hw1 hp).ok
          have hde:=dropS_eq (p:=page) hw2
          rw [hW]
          simp -implicitDefEqProofs only [go_sem,dp,GWork.cells_eq,wV_eq]
          repeat ((first|refine rq ?_|refine way (fun h=>absurd h (by simp)) (fun _=>?_)|refine way (fun _=>?_) (fun h=>absurd h (by simp))|fail);simp -implicitDefEqProofs only [go_sem,dp,GWork.cells_eq,wV_eq])
          refine ks_DropPage u2 page (hw2.smallW hB) (by simp -implicitDefEqProofs only [go_sem,GWork.cells_eq];first|done|rfl) ?_
          rw [hde]
          simp -implicitDefEqProofs only [go_sem,GWork.cells_eq,wV_eq]
          repeat ((first|refine rq ?_|fail);simp -implicitDefEqProofs only [go_sem,GWork.cells_eq,wV_eq])
     have he:=finR_eq (w:=w1) (n:=branchOf (if k=0 then (n.fKeys.zip n.fKids).eraseIdx pre.length else (n.fKeys.zip n.fKids).set pre.length (kx,k))) (page:=page)
     cases hfu:finU w1 (branchOf (if k=0 then (n.fKeys.zip n.fKids).eraseIdx pre.length else (n.fKeys.zip n.fKids).set pre.length (kx,k))) page with
     |none=>rw [hfu] at he;simp only at he;rw [he] at goal;exact ⟨_,_,goal⟩
     |some r=>rw [hfu] at he;simp only at he;rw [he] at goal;exact goal
end Go.Rx
