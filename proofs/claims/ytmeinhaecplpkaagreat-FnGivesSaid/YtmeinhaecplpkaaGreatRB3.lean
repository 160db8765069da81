/-
  Part B3: lemmas on an evaluator over plain data of the model's code, plain laws on lists and numbers, or contracts of functions of the program; each lemma names its conditions.
-/
import Derived.Test.YtmeinhaecplpkaaGreatRB2
import Derived.Test.YtmeinhaecplpkaaGreatRP3

set_option linter.unusedSimpArgs false
set_option linter.unusedVariables false
namespace Go.Rx
open Go
attribute [local irreducible] Req Way WayG Sel callVC CallOK seqVC cVC loopVC nextK
theorem cs_half (w:GWork) (n:GNode) (hw:smallW w) (h1:n.fKeys.length≤100) (h2:n.fLeaf=true→n.fVals.length=n.fKeys.length∧n.fKids=[]) (h3:n.fLeaf=false→n.fKids.length=n.fKeys.length∧n.fVals=[]):match putS w (splitN n) with
  |some (w',kk)=>HalfOK w n true w' kk
  |none=>∃w' kk,HalfOK w n false w' kk:=by
 have h:=cs_halfR w n hw h1 h2 h3
 have he:=halfR_eq (ns:=splitN n) (w:=w)
 cases hp:putS w (splitN n) with
 |none=>rw [hp] at he;simp only at he;rw [he] at h;exact ⟨_,_,h⟩
 |some r=>rw [hp] at he;simp only at he;rw [he] at h;exact h
theorem strs_c1 {l:List Key}:∀c∈strs l,c.length=1:=fun c hc=>by simp only [strs,List.mem_map] at hc;obtain ⟨_,_,rfl⟩:=hc;rfl
theorem strs_o {l:List Key}:∀c∈strs l,∀d∈c,d.one=true:=fun c hc d hd=>by simp only [strs,List.mem_map] at hc;obtain ⟨_,_,rfl⟩:=hc;simp at hd;subst hd;rfl
theorem ints_c1 {l:List Int}:∀c∈ints l,c.length=1:=fun c hc=>by simp only [ints,List.mem_map] at hc;obtain ⟨_,_,rfl⟩:=hc;rfl
theorem ints_o {l:List Int}:∀c∈ints l,∀d∈c,d.one=true:=fun c hc d hd=>by simp only [ints,List.mem_map] at hc;obtain ⟨_,_,rfl⟩:=hc;simp at hd;subst hd;rfl
theorem strs_drop1 {kk:List (Key×Int)}:((strs (kk.map (·.1))).drop 1).take (kk.length - 1)=strs ((kk.drop 1).map (·.1)):=by
 rw [List.take_of_length_le (by simp [strs])];simp [strs,List.map_drop]
theorem strs_kka {kk:List (Key×Int)}:(strs (kk.map (·.1))).take kk.length=strs (kk.map (·.1)):=List.take_of_length_le (by simp [strs])
theorem ints_kka {kk:List (Key×Int)}:(ints (kk.map (·.2))).take kk.length=ints (kk.map (·.2)):=List.take_of_length_le (by simp [ints])
theorem strs_app2 {J:List (Key×Int)} {x:Key} {m:List Key}:(strs (J.map (·.1)++[x])).take (J.length+1)++strs m=strs (J.map (·.1)++x::m):=by
 rw [List.take_of_length_le (by simp [strs])];simp [strs]
theorem ints_app2 {J:List (Key×Int)} {m:List Int}:ints (J.map (·.2))++ints m=ints (J.map (·.2)++m):=by simp [ints]
theorem toNat1:Int.toNat 1=1:=rfl
theorem strs_len1 {l:List Key}:(strs l).length=l.length:=strs_length
def PutC (w:GWork) (page deep:Int) (key val:Key) (b:Bool) (w':GWork) (kk:List (Key×Int)):Prop:=
 CallOK Go.Proofs.Tryz.prog 193 [.ref 0 0,.d (.int .i64 page),.d (.int .i64 deep),.d (.str key),.d (.str val)] [(0,.box (wV w))] [.ref 0 0,.dead,.dead,.dead,.dead]
  (.tup [.own 1 0 kk.length,.own 2 0 kk.length,.d (.bool b)]) ((0,.box (wV w'))::kkH kk)
@[go_sem] def hr193:Hints
 |0=> [0,1,2,3,4]|1=> [0,1,2,3,4]|2=> [0,1,2,3,4,13,14]|3=> [0]|4=> [0,1,2,3,4,13]|5=> [0,1,2,3,4,13,15]|6=> [0,1,3,4,13,15]|7=> [0,1,2,3,4,13,15]|8=> [0,1,2,3,4,13,15,16]|9=> [0,1,2,3,4,13,15]|10=> [0,1,2,3,4,13,15,16]|11=> [0,1,13,15,16,17,18,19]|12=> [0,17,18]|13=> [0,1,13,15,16,17,18]|14=> [0,1,13,15,16,17,18,20]|15=> [0,1,13,15,16,17,18,20]|16=> [0,1,13,15,16,17,18,20]|17=> [0,1,13,15,16,17,18,20]|18=> [0,1,13,15,16,17,18,20]|19=> [0,1,13,15,16,17,18,20]|20=> [0,1,13,15,16,17,18,20,21]|21=> [0,1,13,15,16,17,18,20]|22=> [0,1,13,15,16,17,18,20,21]|23=> [0,1,13,15,16,17,18,20]|24=> [0,1,15]|25=> [0,1,22,23,24]|26=> [0,22,23]|27=> [0,1,22,23]|28=> [0,22,23]|_=> []
@[go_sem] def hl193:Hints
 |14=> [0,1,13,15,16,17,18,20]|_=> []
attribute [go_sem] Go.Proofs.Tryz.results193
set_option maxRecDepth 100000 in
set_option maxHeartbeats 8000000 in
theorem cs_put {ours:Int→Prop} {B:List Int} (hB:B.length≤1000) (key val:Key):∀(f h:Nat) (w:GWork) (page:Int) (fk:Key) (ps:List GPair) (pg:List Int),f≤8→WOK ours B w→Tre (rdW w.fDisk) h page fk ps pg→pg.Nodup→(∀q∈pg,live B w q)→
  match putU f w page key val with
  |some (w',kk,_)=>PutC w page (8 - (f:Int)) key val true w' kk
  |none=>∃w' kk,PutC w page (8 - (f:Int)) key val false w' kk:=by
 intro f
 induction f with
 |zero=>
  intro h w page fk ps pg hf hw ht hn hl
  have hsw:=hw.smallW hB
  have d8:decide ((8:Int)≤8 - ((0:Nat):Int))=true:=rfl
  refine ⟨w,[],?_⟩
  unfold PutC
  refine call_of tysZOK mixedZ Go.Proofs.Tryz.func193 (by kernel_rfl) rfl (np:=[true,false,false,false,false]) (by kernel_rfl) hr193 hl193 (by simp [Go.Proofs.Tryz.ntmps193]) ?_
  simp -implicitDefEqProofs only [go_sem,wV_eq,kkH_eq]
  refine ks_ReadPage w.fDisk page (by have:=hsw.1.1;omega) (by have:=hsw.1.2;omega) rfl ?_
  simp -implicitDefEqProofs only [go_sem]
  refine ks_ReadNode (readPage w.fDisk page) (by have:=readPage_le hw.disk page;omega) rfl ?_
  cases hr:readNode (readPage w.fDisk page) with
  |none=>
   simp only [nodeV_none]
   simp -implicitDefEqProofs only [go_sem,d8,wV_eq,kkH_eq]
   repeat ((first|refine rq ?_|fail);simp -implicitDefEqProofs only [go_sem,d8,wV_eq,kkH_eq])
   rfl
  |some n=>
   simp only [nodeV_some]
   simp -implicitDefEqProofs only [go_sem,d8,wV_eq,kkH_eq]
   repeat ((first|refine rq ?_|fail);simp -implicitDefEqProofs only [go_sem,d8,wV_eq,kkH_eq])
   rfl
 |succ f ih=>
  intro h w page fk ps pg hf hw ht hn hl
  have hsw:=hw.smallW hB
  have d8:decide ((8:Int)≤8 - ((f+1:Nat):Int))=false:=decide_eq_false (by omega)
  obtain ⟨n,C,hrd,hfk,hcand,hpg⟩:=tre_iff.1 ht
  have hrn:readNode (readPage w.fDisk page)=some n:=hrd
  have hok:=rdW_ok _ _ hrd
  have hk4:=hok.2.1
  cases h with
  |zero=>
   obtain ⟨hleaf,hps,hC⟩:=hcand
   have hpu:putU (f+1) w page key val=(anewN w (splitN (leafB (mput (pairsOf n) key val))) page).map fun r=>(r.1,r.2,0):=by
    rw [putU,hrd];simp only [hleaf,if_true]
   rw [hpu]
   have hvl:n.fVals.length=n.fKeys.length:=by have:=hok.2.2.2.2;rw [if_pos hleaf] at this;exact this.1
   have hml:(mput (pairsOf n) key val).length≤5:=by have:=mput_len1 (l:=pairsOf n) (key:=key) (val:=val);have:=pairsOf_len hok hleaf;omega
   have hhalf:=cs_half w (leafB (mput (pairsOf n) key val)) hsw (by simp [leafB];omega) (fun _=>by simp [leafB]) (fun h=>by simp [leafB] at h)
   cases hs:putS w (splitN (leafB (mput (pairsOf n) key val))) with
   |none=>
    rw [hs] at hhalf
    obtain ⟨w1,kk1,hhalf⟩:=hhalf
    have ha:anewN w (splitN (leafB (mput (pairsOf n) key val))) page=none:=by rw [anewN,hs]
    rw [ha]
    refine ⟨w1,kk1,?_⟩
    unfold PutC
    refine call_of tysZOK mixedZ Go.Proofs.Tryz.func193 (by kernel_rfl) rfl (np:=[true,false,false,false,false]) (by kernel_rfl) hr193 hl193 (by simp [Go.Proofs.Tryz.ntmps193]) ?_
    simp -implicitDefEqProofs only [go_sem,wV_eq,kkH_eq]
    refine ks_ReadPage w.fDisk page (by have:=hsw.1.1;omega) (by have:=hsw.1.2;omega) rfl ?_
    simp -implicitDefEqProofs only [go_sem]
    refine ks_ReadNode (readPage w.fDisk page) (by have:=readPage_le hw.disk page;omega) rfl ?_
    rw [hrn]
    simp only [nodeV_some]
    simp -implicitDefEqProofs only [go_sem,d8,hleaf]
    repeat ((first|refine rq ?_|fail);simp -implicitDefEqProofs only [go_sem,d8,hleaf])
    refine ks_l09Set n key val hvl (by omega) (by simp -implicitDefEqProofs only [go_sem,GNode.cells_eq,hleaf];first|done|rfl) ?_
    simp -implicitDefEqProofs only [go_sem,GNode.cells_eq]
    repeat ((first|refine rq ?_|fail);simp -implicitDefEqProofs only [go_sem,GNode.cells_eq])
    refine call_boxO true (xs:=[.agg (leafB (mput (pairsOf n) key val)).cells]) hhalf rfl rfl rfl (by simp -implicitDefEqProofs only [go_sem,GNode.cells_eq];first|done|rfl) rfl rfl rfl rfl (.inl rfl) ?_
    simp -implicitDefEqProofs only [go_sem,wV_eq,kkH_eq]
    repeat ((first|refine rq ?_|fail);simp -implicitDefEqProofs only [go_sem,wV_eq,kkH_eq])
   |some r=>
    obtain ⟨w1,kk1⟩:=r
    rw [hs] at hhalf
    obtain ⟨hw1,_,_⟩:=putS_wok hw hs
    have hsw1:=hw1.smallW hB
    have hde:=dropS_eq (p:=page) hw1
    have ha:anewN w (splitN (leafB (mput (pairsOf n) key val))) page=some (dropP w1 page,kk1):=by rw [anewN,hs]
    rw [ha]
    simp only [Option.map_some]
    unfold PutC
    refine call_of tysZOK mixedZ Go.Proofs.Tryz.func193 (by kernel_rfl) rfl (np:=[true,false,false,false,false]) (by kernel_rfl) hr193 hl193 (by simp [Go.Proofs.Tryz.ntmps193]) ?_
    simp -implicitDefEqProofs only [go_sem,wV_eq,kkH_eq]
    refine ks_ReadPage w.fDisk page (by have:=hsw.1.1;omega) (by have:=hsw.1.2;omega) rfl ?_
    simp -implicitDefEqProofs only [go_sem]
    refine ks_ReadNode (readPage w.fDisk page) (by have:=readPage_le hw.disk page;omega) rfl ?_
    rw [hrn]
    simp only [nodeV_some]
    simp -implicitDefEqProofs only [go_sem,d8,hleaf]
    repeat ((first|refine rq ?_|fail);simp -implicitDefEqProofs only [go_sem,d8,hleaf])
    refine ks_l09Set n key val hvl (by omega) (by simp -implicitDefEqProofs only [go_sem,GNode.cells_eq,hleaf];first|done|rfl) ?_
    simp -implicitDefEqProofs only [go_sem,GNode.cells_eq]
    repeat ((first|refine rq ?_|fail);simp -implicitDefEqProofs only [go_sem,GNode.cells_eq])
    refine call_boxO true (xs:=[.agg (leafB (mput (pairsOf n) key val)).cells]) hhalf rfl rfl rfl (by simp -implicitDefEqProofs only [go_sem,GNode.cells_eq];first|done|rfl) rfl rfl rfl rfl (.inl rfl) ?_
    simp -implicitDefEqProofs only [go_sem,wV_eq,kkH_eq]
    repeat ((first|refine rq ?_|fail);simp -implicitDefEqProofs only [go_sem,wV_eq,kkH_eq])
    refine ks_DropPage w1 page hsw1 (by simp -implicitDefEqProofs only [go_sem,GWork.cells_eq];first|done|rfl) ?_
    rw [hde]
    simp -implicitDefEqProofs only [go_sem,GWork.cells_eq,wV_eq,kkH_eq]
    repeat ((first|refine rq ?_|fail);simp -implicitDefEqProofs only [go_sem,GWork.cells_eq,wV_eq,kkH_eq])
  |succ h=>
   obtain ⟨hleaf,ks,h4,h5,h6,h7,h8,h9⟩:=hcand
   have hkl:n.fKids.length=n.fKeys.length:=by have:=hok.2.2.2.2;rw [if_neg (by rw [hleaf];simp)] at this;exact this.1
   have hpu:putU (f+1) w page key val=match putU f w (n.fKids.getD (placeN n.fKeys key) 0) key val with
     |none=>none
     |some (w1,kk,dp)=>(anewN w1 (splitN (branchOf (joinE (n.fKeys.zip n.fKids) (placeN n.fKeys key) kk))) page).map fun r=>(r.1,r.2,dp+1):=by
    rw [putU,hrd];simp only [hleaf,Bool.false_eq_true,if_false];rfl
   rw [hpu]
   have hks:ks≠ []:=by
    have:=hok.1
    rw [h4,List.length_map] at this
    intro e;rw [e] at this;simp at this
   obtain ⟨pre,s,post,e1,e2,e3,e4⟩:=place_subs (key:=key) hks
   rw [←h4] at e2
   have hs:s∈ks:=by rw [e1];simp
   rw [hpg,h9] at hn hl
   obtain ⟨n1,n2⟩:=List.nodup_cons.1 hn
   have hsp:∀q∈s.pages,q∈ks.flatMap Sub.pages:=fun q hq=>List.mem_flatMap.2 ⟨s,hs,hq⟩
   have hplen:pre.length<n.fKeys.length:=by rw [h4,e1];simp
   obtain ⟨kid,hkid⟩:∃kid,n.fKids[pre.length]? =some kid:=⟨_,List.getElem?_eq_getElem (by omega)⟩
   have hkd:n.fKids.getD pre.length 0=kid:=by simp [List.getD,hkid]
   have hkp:kid=s.page:=by
    have:n.fKids[pre.length]? =some s.page:=by rw [h5,e1];simp
    rw [this] at hkid;simpa using hkid.symm
   have hpi:placeI n.fKeys key= -1∧pre.length=0∨placeI n.fKeys key=(pre.length:Int):=by
    unfold placeN at e2
    rcases placeI_cases n.fKeys key with ⟨g,_⟩|⟨a,b,c,_,g,_,_⟩
    ·left;rw [g] at e2;exact ⟨g,by rw [←e2];rfl⟩
    ·right;rw [g] at e2 ⊢;omega
   have hih:=ih h w s.page s.fst s.pairs s.pages (by omega) hw (h6 s hs) (nodup_flat_mem n2 hs) (fun q hq=>hl q (List.mem_cons_of_mem _ (hsp q hq)))
   rw [e2,hkd,hkp]
   have e8:(8:Int) - ((f+1:Nat):Int)+1=8 - (f:Int):=by omega
   have hpn:=hok.2.1
   have hlk:=fun m:List (List UInt8)=> @strs_length m
   rcases hpi with ⟨g,g0⟩|g
   ·rw [g0] at hkid
    have da:decide ((-1:Int)<0)=true:=rfl
    cases hu:putU f w s.page key val with
    |none=>
     rw [hu] at hih
     obtain ⟨w1,kk1,hih⟩:=hih
     refine ⟨w1,kk1,?_⟩
     unfold PutC at hih ⊢
     refine call_of tysZOK mixedZ Go.Proofs.Tryz.func193 (by kernel_rfl) rfl (np:=[true,false,false,false,false]) (by kernel_rfl) hr193 hl193 (by simp [Go.Proofs.Tryz.ntmps193]) ?_
     simp -implicitDefEqProofs only [go_sem,wV_eq,kkH_eq]
     refine ks_ReadPage w.fDisk page (by have:=hsw.1.1;omega) (by have:=hsw.1.2;omega) rfl ?_
     simp -implicitDefEqProofs only [go_sem]
     refine ks_ReadNode (readPage w.fDisk page) (by have:=readPage_le hw.disk page;omega) rfl ?_
     rw [hrn]
     simp only [nodeV_some]
     simp -implicitDefEqProofs only [go_sem,d8,hleaf]
     repeat ((first|refine rq ?_|fail);simp -implicitDefEqProofs only [go_sem,d8,hleaf])
     refine ks_PlaceOf n key (by simp only [LEN];omega) (ls:=[]) (by simp -implicitDefEqProofs only [go_sem,GNode.cells_eq,hleaf];first|done|rfl) ?_
     rw [g]
     simp -implicitDefEqProofs only [go_sem,da]
     repeat ((first|refine rq ?_|fail);simp -implicitDefEqProofs only [go_sem,da,e8,lget_ints hkid])
     have e8w:IntKind.i64.wrap (8 - (f:Int))=8 - (f:Int):=wrap_int (by omega) (by omega)
     refine call_boxO false (xs:=[.int .i64 s.page,.int .i64 (8 - (f:Int)),.str key,.str val]) hih rfl rfl rfl (by simp -implicitDefEqProofs only [go_sem,hkp,e8w];first|done|rfl) rfl rfl rfl rfl (.inr (.inl rfl)) ?_
     simp -implicitDefEqProofs only [go_sem,wV_eq,kkH_eq]
     repeat ((first|refine rq ?_|fail);simp -implicitDefEqProofs only [go_sem,wV_eq,kkH_eq])
    |some r=>
     obtain ⟨w1,kk1,dp⟩:=r
     rw [hu] at hih
     simp only at hih ⊢
     obtain ⟨hdp,subs1,hkk,r1⟩:=putU_spec hw (h6 s hs) (nodup_flat_mem n2 hs) (fun q hq=>hl q (List.mem_cons_of_mem _ (hsp q hq))) hu
     obtain ⟨s1,rest,hsub,hf1,hrl⟩:=r1.head
     have hsw1:=r1.ok.smallW hB
     have hkk1:kk1=(s1.key,s1.page)::rest.map subKP:=by rw [hkk,hsub];rfl
     have hkl1:kk1.length≤2:=by rw [hkk1];simp;omega
     have hel:(n.fKeys.zip n.fKids).length=n.fKeys.length:=by rw [List.length_zip];omega
     have hjl:=joinP_len (es:=n.fKeys.zip n.fKids) (at_:=pre.length) (kk:=kk1) (Nat.le_refl _)
     rw [joinP_end (by omega)] at hjl
     have hnk:(branchOf (joinE (n.fKeys.zip n.fKids) pre.length kk1)).fKeys.length≤100:=by simp [branchOf];omega
     have hhalf:=cs_half w1 (branchOf (joinE (n.fKeys.zip n.fKids) pre.length kk1)) hsw1 hnk (fun h=>by simp [branchOf] at h) (fun _=>by simp [branchOf])
     generalize hn':branchOf (joinE (n.fKeys.zip n.fKids) pre.length kk1)=n' at hhalf ⊢
     have hnK:n'.fKeys=(joinE (n.fKeys.zip n.fKids) pre.length kk1).map (·.1):=by rw [←hn'];rfl
     have hnI:n'.fKids=(joinE (n.fKeys.zip n.fKids) pre.length kk1).map (·.2):=by rw [←hn'];rfl
     have hnV:n'.fVals=[]∧n'.fLeaf=false:=by rw [←hn'];exact ⟨rfl,rfl⟩
     cases hs2:putS w1 (splitN n') with
     |none=>
      rw [hs2] at hhalf
      obtain ⟨w2,kk2,hhalf⟩:=hhalf
      have ha:anewN w1 (splitN n') page=none:=by rw [anewN,hs2]
      rw [ha]
      refine ⟨w2,kk2,?_⟩
      unfold PutC at hih ⊢
      refine call_of tysZOK mixedZ Go.Proofs.Tryz.func193 (by kernel_rfl) rfl (np:=[true,false,false,false,false]) (by kernel_rfl) hr193 hl193 (by simp [Go.Proofs.Tryz.ntmps193]) ?_
      simp -implicitDefEqProofs only [go_sem,wV_eq,kkH_eq]
      refine ks_ReadPage w.fDisk page (by have:=hsw.1.1;omega) (by have:=hsw.1.2;omega) rfl ?_
      simp -implicitDefEqProofs only [go_sem]
      refine ks_ReadNode (readPage w.fDisk page) (by have:=readPage_le hw.disk page;omega) rfl ?_
      rw [hrn]
      simp only [nodeV_some]
      simp -implicitDefEqProofs only [go_sem,d8,hleaf]
      repeat ((first|refine rq ?_|fail);simp -implicitDefEqProofs only [go_sem,d8,hleaf])
      refine ks_PlaceOf n key (by simp only [LEN];omega) (ls:=[]) (by simp -implicitDefEqProofs only [go_sem,GNode.cells_eq,hleaf];first|done|rfl) ?_
      rw [g]
      simp -implicitDefEqProofs only [go_sem,da]
      repeat ((first|refine rq ?_|fail);simp -implicitDefEqProofs only [go_sem,da,e8,lget_ints hkid])
      have e8w:IntKind.i64.wrap (8 - (f:Int))=8 - (f:Int):=wrap_int (by omega) (by omega)
      refine call_boxO false (xs:=[.int .i64 s.page,.int .i64 (8 - (f:Int)),.str key,.str val]) hih rfl rfl rfl (by simp -implicitDefEqProofs only [go_sem,hkp,e8w];first|done|rfl) rfl rfl rfl rfl (.inr (.inl rfl)) ?_
      simp -implicitDefEqProofs only [go_sem,wV_eq,kkH_eq]
      repeat ((first|refine rq ?_|fail);simp -implicitDefEqProofs only [go_sem,wV_eq,kkH_eq])
      have hj0:joinP (n.fKeys.zip n.fKids) pre.length kk1 0=[]:=by simp [joinP]
      refine loop_data (α:=Nat) (fun i=>⟨[(0,.ref 0 0),(1,.d (.int .i64 page)),(13,.ref 1 0),(15,.ref 2 0),(16,.d (.int .i64 (0))),(17,.own 6 0 kk1.length),(18,.own 7 0 kk1.length),(20,.d (.int .i64 i))],[(0,some (.box [.d (.sl (strs w1.fDisk.fPages)),.d (.sl (GPutS w1.fDisk.fLate)),.d (.int .i64 w1.fNext),.d (.sl (ints w1.fUsable)),.d (.sl (ints w1.fGone)),.d (.sl (ints w1.fFresh))])),(1,some (.box [.d (.bool false),.d (.sl (strs n.fKeys)),.d (.sl (strs n.fVals)),.d (.sl (ints n.fKids))])),(2,some (.box [.d (.bool false),.own 3 0 (joinP (n.fKeys.zip n.fKids) pre.length kk1 i).length,.own 4 0 0,.own 5 0 (joinP (n.fKeys.zip n.fKids) pre.length kk1 i).length])),(3,some (.arr 1 (strs ((joinP (n.fKeys.zip n.fKids) pre.length kk1 i).map (·.1))))),(4,some (.arr 1 [])),(5,some (.arr 1 (ints ((joinP (n.fKeys.zip n.fKids) pre.length kk1 i).map (·.2))))),(6,some (.arr 1 (strs (kk1.map (·.1))))),(7,some (.arr 1 (ints (kk1.map (·.2)))))]⟩)
       (fun i=>i≤n.fKeys.length) (fun i=>n.fKeys.length - i) 0 (by rw [hj0];rfl) (Nat.zero_le _) ?_
      rintro i i1
      have hjle:=joinP_len (es:=n.fKeys.zip n.fKids) (at_:=pre.length) (kk:=kk1) (i:=i) (by omega)
      simp -implicitDefEqProofs only [go_sem]
      (first|(refine way_dec (fun h55=>?_) (fun h55=>?_))|(refine way_ndec (fun h55=>?_) (fun h55=>?_))|(refine wayT_dec (fun h55=>?_) (fun h55=>?_))|(refine wayF_dec (fun h55=>?_) (fun h55=>?_))|(refine wayT_ndec (fun h55=>?_) (fun h55=>?_))|(refine wayF_ndec (fun h55=>?_) (fun h55=>?_))|(refine way_not (fun h55=>?_) (fun h55=>?_))|(refine way (fun h55=>?_) (fun h55=>?_))|(refine wayT (fun h55=>?_) (fun h55=>?_))|(refine wayF (fun h55=>?_) (fun h55=>?_)))
      ·obtain ⟨ki,hki⟩:=some_at h55
       obtain ⟨ci,hci⟩:∃ci,n.fKids[i]? =some ci:=⟨_,List.getElem?_eq_getElem (by omega)⟩
       have hes:=zip_at hki hci
       by_cases hia:i=pre.length
       ·subst hia
        have dia:decide (((pre.length:Nat):Int)=(0))=true:=decide_eq_true (by omega)
        have hJ:=joinP_at (es:=n.fKeys.zip n.fKids) (at_:=pre.length) (kk:=kk1)
        have hged:((n.fKeys.zip n.fKids).getD pre.length ([],0)).1=ki:=by rw [List.getD,hes];rfl
        have hhd:kk1.headD ([],0)=(s1.key,s1.page):=by rw [hkk1];rfl
        rw [hged,hhd] at hJ
        have hk0:lget (strs (kk1.map (·.1))) 0=[.str s1.key]:=by rw [hkk1];rfl
        have hkpos:0<kk1.length:=by rw [hkk1];simp
        have hsnd:kk1.map (·.2)=s1.page::(kk1.drop 1).map (·.2):=by rw [hkk1];rfl
        generalize hJi:joinP (n.fKeys.zip n.fKids) pre.length kk1 pre.length=J at*
        cases hlt:bLess s1.key ki
        ·have hkm:kmin ki s1.key=ki:=if_neg (by unfold klt;rw [hlt];simp)
         rw [hkm] at hJ
         simp -implicitDefEqProofs only [go_sem,dia,lget_strs hki,lget_ints hci,hk0,hlt,hJi]
         repeat ((first|refine rq ?_|refine way (fun h=>absurd h (by simp)) (fun _=>?_)|refine way (fun _=>?_) (fun h=>absurd h (by simp))|refine req ⟨by omega,strs_c1,strs_o⟩ ?_|refine req ⟨by omega,ints_c1,ints_o⟩ ?_|fail);simp -implicitDefEqProofs only [go_sem,dia,lget_strs hki,lget_ints hci,hk0,hlt,hJi,strs_kk,ints_kk,toNat1,strs_drop1,ints_kka,strs_len1,ints_length,List.length_map,List.length_drop])
         rw [wrap_succ (by simp only [LEN];omega)]
         refine next_data (pre.length+1) ?_ (by omega) (by omega)
         have hL1:J.length+1+(kk1.length - 1)=J.length+kk1.length:=by omega
         have hL2:J.length+(kk1.length - 1+1)=J.length+kk1.length:=by omega
         simp only [hJ,strs_app2,ints_app2,List.map_append,List.map_cons,←hsnd,List.length_append,List.length_cons,List.length_drop,hL1,hL2]
        ·have hkm:kmin ki s1.key=s1.key:=if_pos hlt
         rw [hkm] at hJ
         simp -implicitDefEqProofs only [go_sem,dia,lget_strs hki,lget_ints hci,hk0,hlt,hJi]
         repeat ((first|refine rq ?_|refine way (fun h=>absurd h (by simp)) (fun _=>?_)|refine way (fun _=>?_) (fun h=>absurd h (by simp))|refine req ⟨by omega,strs_c1,strs_o⟩ ?_|refine req ⟨by omega,ints_c1,ints_o⟩ ?_|fail);simp -implicitDefEqProofs only [go_sem,dia,lget_strs hki,lget_ints hci,hk0,hlt,hJi,strs_kk,ints_kk,toNat1,strs_drop1,ints_kka,strs_len1,ints_length,List.length_map,List.length_drop])
         rw [wrap_succ (by simp only [LEN];omega)]
         refine next_data (pre.length+1) ?_ (by omega) (by omega)
         have hL1:J.length+1+(kk1.length - 1)=J.length+kk1.length:=by omega
         have hL2:J.length+(kk1.length - 1+1)=J.length+kk1.length:=by omega
         simp only [hJ,strs_app2,ints_app2,List.map_append,List.map_cons,←hsnd,List.length_append,List.length_cons,List.length_drop,hL1,hL2]
       ·have dia:decide ((i:Int)=(0))=false:=decide_eq_false (by omega)
        have hJ:=joinP_ne (kk:=kk1) hes hia
        simp -implicitDefEqProofs only [go_sem,dia,lget_strs hki,lget_ints hci]
        repeat ((first|refine rq ?_|fail);simp -implicitDefEqProofs only [go_sem,dia,lget_strs hki,lget_ints hci,strs_kk,ints_kk])
        rw [wrap_succ (by simp only [LEN];omega)]
        refine next_data (i+1) ?_ (by omega) (by omega)
        simp [hJ]
      ·have hi:i=(n.fKeys.zip n.fKids).length:=by omega
       rw [hi,joinP_end (by omega)]
       generalize hE:joinE (n.fKeys.zip n.fKids) pre.length kk1=E at*
       simp -implicitDefEqProofs only [go_sem]
       repeat ((first|refine rq ?_|fail);simp -implicitDefEqProofs only [go_sem])
       refine call_boxO true (xs:=[.agg n'.cells]) hhalf rfl rfl rfl (by simp -implicitDefEqProofs only [go_sem,GNode.cells_eq,hnK,hnI,hnV,strs_kka,ints_kka];first|done|rfl) rfl rfl rfl rfl (.inl rfl) ?_
       simp -implicitDefEqProofs only [go_sem,wV_eq,kkH_eq]
       repeat ((first|refine rq ?_|fail);simp -implicitDefEqProofs only [go_sem,wV_eq,kkH_eq])
       trace_state
     |some r2=>
      obtain ⟨w2,kk2⟩:=r2
      rw [hs2] at hhalf
      simp only at hhalf
      obtain ⟨hw2,_,_⟩:=putS_wok r1.ok hs2
      have hsw2:=hw2.smallW hB
      have hde:=dropS_eq (p:=page) hw2
      have ha:anewN w1 (splitN n') page=some (dropP w2 page,kk2):=by rw [anewN,hs2]
      rw [ha]
      simp only [Option.map_some]
      unfold PutC at hih ⊢
      refine call_of tysZOK mixedZ Go.Proofs.Tryz.func193 (by kernel_rfl) rfl (np:=[true,false,false,false,false]) (by kernel_rfl) hr193 hl193 (by simp [Go.Proofs.Tryz.ntmps193]) ?_
      simp -implicitDefEqProofs only [go_sem,wV_eq,kkH_eq]
      refine ks_ReadPage w.fDisk page (by have:=hsw.1.1;omega) (by have:=hsw.1.2;omega) rfl ?_
      simp -implicitDefEqProofs only [go_sem]
      refine ks_ReadNode (readPage w.fDisk page) (by have:=readPage_le hw.disk page;omega) rfl ?_
      rw [hrn]
      simp only [nodeV_some]
      simp -implicitDefEqProofs only [go_sem,d8,hleaf]
      repeat ((first|refine rq ?_|fail);simp -implicitDefEqProofs only [go_sem,d8,hleaf])
      refine ks_PlaceOf n key (by simp only [LEN];omega) (ls:=[]) (by simp -implicitDefEqProofs only [go_sem,GNode.cells_eq,hleaf];first|done|rfl) ?_
      rw [g]
      simp -implicitDefEqProofs only [go_sem,da]
      repeat ((first|refine rq ?_|fail);simp -implicitDefEqProofs only [go_sem,da,e8,lget_ints hkid])
      have e8w:IntKind.i64.wrap (8 - (f:Int))=8 - (f:Int):=wrap_int (by omega) (by omega)
      refine call_boxO false (xs:=[.int .i64 s.page,.int .i64 (8 - (f:Int)),.str key,.str val]) hih rfl rfl rfl (by simp -implicitDefEqProofs only [go_sem,hkp,e8w];first|done|rfl) rfl rfl rfl rfl (.inr (.inl rfl)) ?_
      simp -implicitDefEqProofs only [go_sem,wV_eq,kkH_eq]
      repeat ((first|refine rq ?_|fail);simp -implicitDefEqProofs only [go_sem,wV_eq,kkH_eq])
      have hj0:joinP (n.fKeys.zip n.fKids) pre.length kk1 0=[]:=by simp [joinP]
      refine loop_data (α:=Nat) (fun i=>⟨[(0,.ref 0 0),(1,.d (.int .i64 page)),(13,.ref 1 0),(15,.ref 2 0),(16,.d (.int .i64 (0))),(17,.own 6 0 kk1.length),(18,.own 7 0 kk1.length),(20,.d (.int .i64 i))],[(0,some (.box [.d (.sl (strs w1.fDisk.fPages)),.d (.sl (GPutS w1.fDisk.fLate)),.d (.int .i64 w1.fNext),.d (.sl (ints w1.fUsable)),.d (.sl (ints w1.fGone)),.d (.sl (ints w1.fFresh))])),(1,some (.box [.d (.bool false),.d (.sl (strs n.fKeys)),.d (.sl (strs n.fVals)),.d (.sl (ints n.fKids))])),(2,some (.box [.d (.bool false),.own 3 0 (joinP (n.fKeys.zip n.fKids) pre.length kk1 i).length,.own 4 0 0,.own 5 0 (joinP (n.fKeys.zip n.fKids) pre.length kk1 i).length])),(3,some (.arr 1 (strs ((joinP (n.fKeys.zip n.fKids) pre.length kk1 i).map (·.1))))),(4,some (.arr 1 [])),(5,some (.arr 1 (ints ((joinP (n.fKeys.zip n.fKids) pre.length kk1 i).map (·.2))))),(6,some (.arr 1 (strs (kk1.map (·.1))))),(7,some (.arr 1 (ints (kk1.map (·.2)))))]⟩)
       (fun i=>i≤n.fKeys.length) (fun i=>n.fKeys.length - i) 0 (by rw [hj0];rfl) (Nat.zero_le _) ?_
      rintro i i1
      have hjle:=joinP_len (es:=n.fKeys.zip n.fKids) (at_:=pre.length) (kk:=kk1) (i:=i) (by omega)
      simp -implicitDefEqProofs only [go_sem]
      (first|(refine way_dec (fun h55=>?_) (fun h55=>?_))|(refine way_ndec (fun h55=>?_) (fun h55=>?_))|(refine wayT_dec (fun h55=>?_) (fun h55=>?_))|(refine wayF_dec (fun h55=>?_) (fun h55=>?_))|(refine wayT_ndec (fun h55=>?_) (fun h55=>?_))|(refine wayF_ndec (fun h55=>?_) (fun h55=>?_))|(refine way_not (fun h55=>?_) (fun h55=>?_))|(refine way (fun h55=>?_) (fun h55=>?_))|(refine wayT (fun h55=>?_) (fun h55=>?_))|(refine wayF (fun h55=>?_) (fun h55=>?_)))
      ·obtain ⟨ki,hki⟩:=some_at h55
       obtain ⟨ci,hci⟩:∃ci,n.fKids[i]? =some ci:=⟨_,List.getElem?_eq_getElem (by omega)⟩
       have hes:=zip_at hki hci
       by_cases hia:i=pre.length
       ·subst hia
        have dia:decide (((pre.length:Nat):Int)=(0))=true:=decide_eq_true (by omega)
        have hJ:=joinP_at (es:=n.fKeys.zip n.fKids) (at_:=pre.length) (kk:=kk1)
        have hged:((n.fKeys.zip n.fKids).getD pre.length ([],0)).1=ki:=by rw [List.getD,hes];rfl
        have hhd:kk1.headD ([],0)=(s1.key,s1.page):=by rw [hkk1];rfl
        rw [hged,hhd] at hJ
        have hk0:lget (strs (kk1.map (·.1))) 0=[.str s1.key]:=by rw [hkk1];rfl
        have hkpos:0<kk1.length:=by rw [hkk1];simp
        have hsnd:kk1.map (·.2)=s1.page::(kk1.drop 1).map (·.2):=by rw [hkk1];rfl
        generalize hJi:joinP (n.fKeys.zip n.fKids) pre.length kk1 pre.length=J at*
        cases hlt:bLess s1.key ki
        ·have hkm:kmin ki s1.key=ki:=if_neg (by unfold klt;rw [hlt];simp)
         rw [hkm] at hJ
         simp -implicitDefEqProofs only [go_sem,dia,lget_strs hki,lget_ints hci,hk0,hlt,hJi]
         repeat ((first|refine rq ?_|refine way (fun h=>absurd h (by simp)) (fun _=>?_)|refine way (fun _=>?_) (fun h=>absurd h (by simp))|refine req ⟨by omega,strs_c1,strs_o⟩ ?_|refine req ⟨by omega,ints_c1,ints_o⟩ ?_|fail);simp -implicitDefEqProofs only [go_sem,dia,lget_strs hki,lget_ints hci,hk0,hlt,hJi,strs_kk,ints_kk,toNat1,strs_drop1,ints_kka,strs_len1,ints_length,List.length_map,List.length_drop])
         rw [wrap_succ (by simp only [LEN];omega)]
         refine next_data (pre.length+1) ?_ (by omega) (by omega)
         have hL1:J.length+1+(kk1.length - 1)=J.length+kk1.length:=by omega
         have hL2:J.length+(kk1.length - 1+1)=J.length+kk1.length:=by omega
         simp only [hJ,strs_app2,ints_app2,List.map_append,List.map_cons,←hsnd,List.length_append,List.length_cons,List.length_drop,hL1,hL2]
        ·have hkm:kmin ki s1.key=s1.key:=if_pos hlt
         rw [hkm] at hJ
         simp -implicitDefEqProofs only [go_sem,dia,lget_strs hki,lget_ints hci,hk0,hlt,hJi]
         repeat ((first|refine rq ?_|refine way (fun h=>absurd h (by simp)) (fun _=>?_)|refine way (fun _=>?_) (fun h=>absurd h (by simp))|refine req ⟨by omega,strs_c1,strs_o⟩ ?_|refine req ⟨by omega,ints_c1,ints_o⟩ ?_|fail);simp -implicitDefEqProofs only [go_sem,dia,lget_strs hki,lget_ints hci,hk0,hlt,hJi,strs_kk,ints_kk,toNat1,strs_drop1,ints_kka,strs_len1,ints_length,List.length_map,List.length_drop])
         rw [wrap_succ (by simp only [LEN];omega)]
         refine next_data (pre.length+1) ?_ (by omega) (by omega)
         have hL1:J.length+1+(kk1.length - 1)=J.length+kk1.length:=by omega
         have hL2:J.length+(kk1.length - 1+1)=J.length+kk1.length:=by omega
         simp only [hJ,strs_app2,ints_app2,List.map_append,List.map_cons,←hsnd,List.length_append,List.length_cons,List.length_drop,hL1,hL2]
       ·have dia:decide ((i:Int)=(0))=false:=decide_eq_false (by omega)
        have hJ:=joinP_ne (kk:=kk1) hes hia
        simp -implicitDefEqProofs only [go_sem,dia,lget_strs hki,lget_ints hci]
        repeat ((first|refine rq ?_|fail);simp -implicitDefEqProofs only [go_sem,dia,lget_strs hki,lget_ints hci,strs_kk,ints_kk])
        rw [wrap_succ (by simp only [LEN];omega)]
        refine next_data (i+1) ?_ (by omega) (by omega)
        simp [hJ]
      ·have hi:i=(n.fKeys.zip n.fKids).length:=by omega
       rw [hi,joinP_end (by omega)]
       generalize hE:joinE (n.fKeys.zip n.fKids) pre.length kk1=E at*
       simp -implicitDefEqProofs only [go_sem]
       repeat ((first|refine rq ?_|fail);simp -implicitDefEqProofs only [go_sem])
       refine call_boxO true (xs:=[.agg n'.cells]) hhalf rfl rfl rfl (by simp -implicitDefEqProofs only [go_sem,GNode.cells_eq,hnK,hnI,hnV,strs_kka,ints_kka];first|done|rfl) rfl rfl rfl rfl (.inl rfl) ?_
       simp -implicitDefEqProofs only [go_sem,wV_eq,kkH_eq]
       repeat ((first|refine rq ?_|fail);simp -implicitDefEqProofs only [go_sem,wV_eq,kkH_eq])
       refine ks_DropPage w2 page hsw2 (by simp -implicitDefEqProofs only [go_sem,GWork.cells_eq];first|done|rfl) ?_
       rw [hde]
       simp -implicitDefEqProofs only [go_sem,GWork.cells_eq,wV_eq,kkH_eq]
       repeat ((first|refine rq ?_|fail);simp -implicitDefEqProofs only [go_sem,GWork.cells_eq,wV_eq,kkH_eq])
       trace_state
   ·have da:decide ((pre.length:Int)<0)=false:=decide_eq_false (by omega)
    cases hu:putU f w s.page key val with
    |none=>
     rw [hu] at hih
     obtain ⟨w1,kk1,hih⟩:=hih
     refine ⟨w1,kk1,?_⟩
     unfold PutC at hih ⊢
     refine call_of tysZOK mixedZ Go.Proofs.Tryz.func193 (by kernel_rfl) rfl (np:=[true,false,false,false,false]) (by kernel_rfl) hr193 hl193 (by simp [Go.Proofs.Tryz.ntmps193]) ?_
     simp -implicitDefEqProofs only [go_sem,wV_eq,kkH_eq]
     refine ks_ReadPage w.fDisk page (by have:=hsw.1.1;omega) (by have:=hsw.1.2;omega) rfl ?_
     simp -implicitDefEqProofs only [go_sem]
     refine ks_ReadNode (readPage w.fDisk page) (by have:=readPage_le hw.disk page;omega) rfl ?_
     rw [hrn]
     simp only [nodeV_some]
     simp -implicitDefEqProofs only [go_sem,d8,hleaf]
     repeat ((first|refine rq ?_|fail);simp -implicitDefEqProofs only [go_sem,d8,hleaf])
     refine ks_PlaceOf n key (by simp only [LEN];omega) (ls:=[]) (by simp -implicitDefEqProofs only [go_sem,GNode.cells_eq,hleaf];first|done|rfl) ?_
     rw [g]
     simp -implicitDefEqProofs only [go_sem,da]
     repeat ((first|refine rq ?_|fail);simp -implicitDefEqProofs only [go_sem,da,e8,lget_ints hkid])
     have e8w:IntKind.i64.wrap (8 - (f:Int))=8 - (f:Int):=wrap_int (by omega) (by omega)
     refine call_boxO false (xs:=[.int .i64 s.page,.int .i64 (8 - (f:Int)),.str key,.str val]) hih rfl rfl rfl (by simp -implicitDefEqProofs only [go_sem,hkp,e8w];first|done|rfl) rfl rfl rfl rfl (.inr (.inl rfl)) ?_
     simp -implicitDefEqProofs only [go_sem,wV_eq,kkH_eq]
     repeat ((first|refine rq ?_|fail);simp -implicitDefEqProofs only [go_sem,wV_eq,kkH_eq])
    |some r=>
     obtain ⟨w1,kk1,dp⟩:=r
     rw [hu] at hih
     simp only at hih ⊢
     obtain ⟨hdp,subs1,hkk,r1⟩:=putU_spec hw (h6 s hs) (nodup_flat_mem n2 hs) (fun q hq=>hl q (List.mem_cons_of_mem _ (hsp q hq))) hu
     obtain ⟨s1,rest,hsub,hf1,hrl⟩:=r1.head
     have hsw1:=r1.ok.smallW hB
     have hkk1:kk1=(s1.key,s1.page)::rest.map subKP:=by rw [hkk,hsub];rfl
     have hkl1:kk1.length≤2:=by rw [hkk1];simp;omega
     have hel:(n.fKeys.zip n.fKids).length=n.fKeys.length:=by rw [List.length_zip];omega
     have hjl:=joinP_len (es:=n.fKeys.zip n.fKids) (at_:=pre.length) (kk:=kk1) (Nat.le_refl _)
     rw [joinP_end (by omega)] at hjl
     have hnk:(branchOf (joinE (n.fKeys.zip n.fKids) pre.length kk1)).fKeys.length≤100:=by simp [branchOf];omega
     have hhalf:=cs_half w1 (branchOf (joinE (n.fKeys.zip n.fKids) pre.length kk1)) hsw1 hnk (fun h=>by simp [branchOf] at h) (fun _=>by simp [branchOf])
     generalize hn':branchOf (joinE (n.fKeys.zip n.fKids) pre.length kk1)=n' at hhalf ⊢
     have hnK:n'.fKeys=(joinE (n.fKeys.zip n.fKids) pre.length kk1).map (·.1):=by rw [←hn'];rfl
     have hnI:n'.fKids=(joinE (n.fKeys.zip n.fKids) pre.length kk1).map (·.2):=by rw [←hn'];rfl
     have hnV:n'.fVals=[]∧n'.fLeaf=false:=by rw [←hn'];exact ⟨rfl,rfl⟩
     cases hs2:putS w1 (splitN n') with
     |none=>
      rw [hs2] at hhalf
      obtain ⟨w2,kk2,hhalf⟩:=hhalf
      have ha:anewN w1 (splitN n') page=none:=by rw [anewN,hs2]
      rw [ha]
      refine ⟨w2,kk2,?_⟩
      unfold PutC at hih ⊢
      refine call_of tysZOK mixedZ Go.Proofs.Tryz.func193 (by kernel_rfl) rfl (np:=[true,false,false,false,false]) (by kernel_rfl) hr193 hl193 (by simp [Go.Proofs.Tryz.ntmps193]) ?_
      simp -implicitDefEqProofs only [go_sem,wV_eq,kkH_eq]
      refine ks_ReadPage w.fDisk page (by have:=hsw.1.1;omega) (by have:=hsw.1.2;omega) rfl ?_
      simp -implicitDefEqProofs only [go_sem]
      refine ks_ReadNode (readPage w.fDisk page) (by have:=readPage_le hw.disk page;omega) rfl ?_
      rw [hrn]
      simp only [nodeV_some]
      simp -implicitDefEqProofs only [go_sem,d8,hleaf]
      repeat ((first|refine rq ?_|fail);simp -implicitDefEqProofs only [go_sem,d8,hleaf])
      refine ks_PlaceOf n key (by simp only [LEN];omega) (ls:=[]) (by simp -implicitDefEqProofs only [go_sem,GNode.cells_eq,hleaf];first|done|rfl) ?_
      rw [g]
      simp -implicitDefEqProofs only [go_sem,da]
      repeat ((first|refine rq ?_|fail);simp -implicitDefEqProofs only [go_sem,da,e8,lget_ints hkid])
      have e8w:IntKind.i64.wrap (8 - (f:Int))=8 - (f:Int):=wrap_int (by omega) (by omega)
      refine call_boxO false (xs:=[.int .i64 s.page,.int .i64 (8 - (f:Int)),.str key,.str val]) hih rfl rfl rfl (by simp -implicitDefEqProofs only [go_sem,hkp,e8w];first|done|rfl) rfl rfl rfl rfl (.inr (.inl rfl)) ?_
      simp -implicitDefEqProofs only [go_sem,wV_eq,kkH_eq]
      repeat ((first|refine rq ?_|fail);simp -implicitDefEqProofs only [go_sem,wV_eq,kkH_eq])
      have hj0:joinP (n.fKeys.zip n.fKids) pre.length kk1 0=[]:=by simp [joinP]
      refine loop_data (α:=Nat) (fun i=>⟨[(0,.ref 0 0),(1,.d (.int .i64 page)),(13,.ref 1 0),(15,.ref 2 0),(16,.d (.int .i64 ((pre.length:Int)))),(17,.own 6 0 kk1.length),(18,.own 7 0 kk1.length),(20,.d (.int .i64 i))],[(0,some (.box [.d (.sl (strs w1.fDisk.fPages)),.d (.sl (GPutS w1.fDisk.fLate)),.d (.int .i64 w1.fNext),.d (.sl (ints w1.fUsable)),.d (.sl (ints w1.fGone)),.d (.sl (ints w1.fFresh))])),(1,some (.box [.d (.bool false),.d (.sl (strs n.fKeys)),.d (.sl (strs n.fVals)),.d (.sl (ints n.fKids))])),(2,some (.box [.d (.bool false),.own 3 0 (joinP (n.fKeys.zip n.fKids) pre.length kk1 i).length,.own 4 0 0,.own 5 0 (joinP (n.fKeys.zip n.fKids) pre.length kk1 i).length])),(3,some (.arr 1 (strs ((joinP (n.fKeys.zip n.fKids) pre.length kk1 i).map (·.1))))),(4,some (.arr 1 [])),(5,some (.arr 1 (ints ((joinP (n.fKeys.zip n.fKids) pre.length kk1 i).map (·.2))))),(6,some (.arr 1 (strs (kk1.map (·.1))))),(7,some (.arr 1 (ints (kk1.map (·.2)))))]⟩)
       (fun i=>i≤n.fKeys.length) (fun i=>n.fKeys.length - i) 0 (by rw [hj0];rfl) (Nat.zero_le _) ?_
      rintro i i1
      have hjle:=joinP_len (es:=n.fKeys.zip n.fKids) (at_:=pre.length) (kk:=kk1) (i:=i) (by omega)
      simp -implicitDefEqProofs only [go_sem]
      (first|(refine way_dec (fun h55=>?_) (fun h55=>?_))|(refine way_ndec (fun h55=>?_) (fun h55=>?_))|(refine wayT_dec (fun h55=>?_) (fun h55=>?_))|(refine wayF_dec (fun h55=>?_) (fun h55=>?_))|(refine wayT_ndec (fun h55=>?_) (fun h55=>?_))|(refine wayF_ndec (fun h55=>?_) (fun h55=>?_))|(refine way_not (fun h55=>?_) (fun h55=>?_))|(refine way (fun h55=>?_) (fun h55=>?_))|(refine wayT (fun h55=>?_) (fun h55=>?_))|(refine wayF (fun h55=>?_) (fun h55=>?_)))
      ·obtain ⟨ki,hki⟩:=some_at h55
       obtain ⟨ci,hci⟩:∃ci,n.fKids[i]? =some ci:=⟨_,List.getElem?_eq_getElem (by omega)⟩
       have hes:=zip_at hki hci
       by_cases hia:i=pre.length
       ·subst hia
        have dia:decide (((pre.length:Nat):Int)=((pre.length:Int)))=true:=decide_eq_true (by omega)
        have hJ:=joinP_at (es:=n.fKeys.zip n.fKids) (at_:=pre.length) (kk:=kk1)
        have hged:((n.fKeys.zip n.fKids).getD pre.length ([],0)).1=ki:=by rw [List.getD,hes];rfl
        have hhd:kk1.headD ([],0)=(s1.key,s1.page):=by rw [hkk1];rfl
        rw [hged,hhd] at hJ
        have hk0:lget (strs (kk1.map (·.1))) 0=[.str s1.key]:=by rw [hkk1];rfl
        have hkpos:0<kk1.length:=by rw [hkk1];simp
        have hsnd:kk1.map (·.2)=s1.page::(kk1.drop 1).map (·.2):=by rw [hkk1];rfl
        generalize hJi:joinP (n.fKeys.zip n.fKids) pre.length kk1 pre.length=J at*
        cases hlt:bLess s1.key ki
        ·have hkm:kmin ki s1.key=ki:=if_neg (by unfold klt;rw [hlt];simp)
         rw [hkm] at hJ
         simp -implicitDefEqProofs only [go_sem,dia,lget_strs hki,lget_ints hci,hk0,hlt,hJi]
         repeat ((first|refine rq ?_|refine way (fun h=>absurd h (by simp)) (fun _=>?_)|refine way (fun _=>?_) (fun h=>absurd h (by simp))|refine req ⟨by omega,strs_c1,strs_o⟩ ?_|refine req ⟨by omega,ints_c1,ints_o⟩ ?_|fail);simp -implicitDefEqProofs only [go_sem,dia,lget_strs hki,lget_ints hci,hk0,hlt,hJi,strs_kk,ints_kk,toNat1,strs_drop1,ints_kka,strs_len1,ints_length,List.length_map,List.length_drop])
         rw [wrap_succ (by simp only [LEN];omega)]
         refine next_data (pre.length+1) ?_ (by omega) (by omega)
         have hL1:J.length+1+(kk1.length - 1)=J.length+kk1.length:=by omega
         have hL2:J.length+(kk1.length - 1+1)=J.length+kk1.length:=by omega
         simp only [hJ,strs_app2,ints_app2,List.map_append,List.map_cons,←hsnd,List.length_append,List.length_cons,List.length_drop,hL1,hL2]
        ·have hkm:kmin ki s1.key=s1.key:=if_pos hlt
         rw [hkm] at hJ
         simp -implicitDefEqProofs only [go_sem,dia,lget_strs hki,lget_ints hci,hk0,hlt,hJi]
         repeat ((first|refine rq ?_|refine way (fun h=>absurd h (by simp)) (fun _=>?_)|refine way (fun _=>?_) (fun h=>absurd h (by simp))|refine req ⟨by omega,strs_c1,strs_o⟩ ?_|refine req ⟨by omega,ints_c1,ints_o⟩ ?_|fail);simp -implicitDefEqProofs only [go_sem,dia,lget_strs hki,lget_ints hci,hk0,hlt,hJi,strs_kk,ints_kk,toNat1,strs_drop1,ints_kka,strs_len1,ints_length,List.length_map,List.length_drop])
         rw [wrap_succ (by simp only [LEN];omega)]
         refine next_data (pre.length+1) ?_ (by omega) (by omega)
         have hL1:J.length+1+(kk1.length - 1)=J.length+kk1.length:=by omega
         have hL2:J.length+(kk1.length - 1+1)=J.length+kk1.length:=by omega
         simp only [hJ,strs_app2,ints_app2,List.map_append,List.map_cons,←hsnd,List.length_append,List.length_cons,List.length_drop,hL1,hL2]
       ·have dia:decide ((i:Int)=((pre.length:Int)))=false:=decide_eq_false (by omega)
        have hJ:=joinP_ne (kk:=kk1) hes hia
        simp -implicitDefEqProofs only [go_sem,dia,lget_strs hki,lget_ints hci]
        repeat ((first|refine rq ?_|fail);simp -implicitDefEqProofs only [go_sem,dia,lget_strs hki,lget_ints hci,strs_kk,ints_kk])
        rw [wrap_succ (by simp only [LEN];omega)]
        refine next_data (i+1) ?_ (by omega) (by omega)
        simp [hJ]
      ·have hi:i=(n.fKeys.zip n.fKids).length:=by omega
       rw [hi,joinP_end (by omega)]
       generalize hE:joinE (n.fKeys.zip n.fKids) pre.length kk1=E at*
       simp -implicitDefEqProofs only [go_sem]
       repeat ((first|refine rq ?_|fail);simp -implicitDefEqProofs only [go_sem])
       refine call_boxO true (xs:=[.agg n'.cells]) hhalf rfl rfl rfl (by simp -implicitDefEqProofs only [go_sem,GNode.cells_eq,hnK,hnI,hnV,strs_kka,ints_kka];first|done|rfl) rfl rfl rfl rfl (.inl rfl) ?_
       simp -implicitDefEqProofs only [go_sem,wV_eq,kkH_eq]
       repeat ((first|refine rq ?_|fail);simp -implicitDefEqProofs only [go_sem,wV_eq,kkH_eq])
       trace_state
     |some r2=>
      obtain ⟨w2,kk2⟩:=r2
      rw [hs2] at hhalf
      simp only at hhalf
      obtain ⟨hw2,_,_⟩:=putS_wok r1.ok hs2
      have hsw2:=hw2.smallW hB
      have hde:=dropS_eq (p:=page) hw2
      have ha:anewN w1 (splitN n') page=some (dropP w2 page,kk2):=by rw [anewN,hs2]
      rw [ha]
      simp only [Option.map_some]
      unfold PutC at hih ⊢
      refine call_of tysZOK mixedZ Go.Proofs.Tryz.func193 (by kernel_rfl) rfl (np:=[true,false,false,false,false]) (by kernel_rfl) hr193 hl193 (by simp [Go.Proofs.Tryz.ntmps193]) ?_
      simp -implicitDefEqProofs only [go_sem,wV_eq,kkH_eq]
      refine ks_ReadPage w.fDisk page (by have:=hsw.1.1;omega) (by have:=hsw.1.2;omega) rfl ?_
      simp -implicitDefEqProofs only [go_sem]
      refine ks_ReadNode (readPage w.fDisk page) (by have:=readPage_le hw.disk page;omega) rfl ?_
      rw [hrn]
      simp only [nodeV_some]
      simp -implicitDefEqProofs only [go_sem,d8,hleaf]
      repeat ((first|refine rq ?_|fail);simp -implicitDefEqProofs only [go_sem,d8,hleaf])
      refine ks_PlaceOf n key (by simp only [LEN];omega) (ls:=[]) (by simp -implicitDefEqProofs only [go_sem,GNode.cells_eq,hleaf];first|done|rfl) ?_
      rw [g]
      simp -implicitDefEqProofs only [go_sem,da]
      repeat ((first|refine rq ?_|fail);simp -implicitDefEqProofs only [go_sem,da,e8,lget_ints hkid])
      have e8w:IntKind.i64.wrap (8 - (f:Int))=8 - (f:Int):=wrap_int (by omega) (by omega)
      refine call_boxO false (xs:=[.int .i64 s.page,.int .i64 (8 - (f:Int)),.str key,.str val]) hih rfl rfl rfl (by simp -implicitDefEqProofs only [go_sem,hkp,e8w];first|done|rfl) rfl rfl rfl rfl (.inr (.inl rfl)) ?_
      simp -implicitDefEqProofs only [go_sem,wV_eq,kkH_eq]
      repeat ((first|refine rq ?_|fail);simp -implicitDefEqProofs only [go_sem,wV_eq,kkH_eq])
      have hj0:joinP (n.fKeys.zip n.fKids) pre.length kk1 0=[]:=by simp [joinP]
      refine loop_data (α:=Nat) (fun i=>⟨[(0,.ref 0 0),(1,.d (.int .i64 page)),(13,.ref 1 0),(15,.ref 2 0),(16,.d (.int .i64 ((pre.length:Int)))),(17,.own 6 0 kk1.length),(18,.own 7 0 kk1.length),(20,.d (.int .i64 i))],[(0,some (.box [.d (.sl (strs w1.fDisk.fPages)),.d (.sl (GPutS w1.fDisk.fLate)),.d (.int .i64 w1.fNext),.d (.sl (ints w1.fUsable)),.d (.sl (ints w1.fGone)),.d (.sl (ints w1.fFresh))])),(1,some (.box [.d (.bool false),.d (.sl (strs n.fKeys)),.d (.sl (strs n.fVals)),.d (.sl (ints n.fKids))])),(2,some (.box [.d (.bool false),.own 3 0 (joinP (n.fKeys.zip n.fKids) pre.length kk1 i).length,.own 4 0 0,.own 5 0 (joinP (n.fKeys.zip n.fKids) pre.length kk1 i).length])),(3,some (.arr 1 (strs ((joinP (n.fKeys.zip n.fKids) pre.length kk1 i).map (·.1))))),(4,some (.arr 1 [])),(5,some (.arr 1 (ints ((joinP (n.fKeys.zip n.fKids) pre.length kk1 i).map (·.2))))),(6,some (.arr 1 (strs (kk1.map (·.1))))),(7,some (.arr 1 (ints (kk1.map (·.2)))))]⟩)
       (fun i=>i≤n.fKeys.length) (fun i=>n.fKeys.length - i) 0 (by rw [hj0];rfl) (Nat.zero_le _) ?_
      rintro i i1
      have hjle:=joinP_len (es:=n.fKeys.zip n.fKids) (at_:=pre.length) (kk:=kk1) (i:=i) (by omega)
      simp -implicitDefEqProofs only [go_sem]
      (first|(refine way_dec (fun h55=>?_) (fun h55=>?_))|(refine way_ndec (fun h55=>?_) (fun h55=>?_))|(refine wayT_dec (fun h55=>?_) (fun h55=>?_))|(refine wayF_dec (fun h55=>?_) (fun h55=>?_))|(refine wayT_ndec (fun h55=>?_) (fun h55=>?_))|(refine wayF_ndec (fun h55=>?_) (fun h55=>?_))|(refine way_not (fun h55=>?_) (fun h55=>?_))|(refine way (fun h55=>?_) (fun h55=>?_))|(refine wayT (fun h55=>?_) (fun h55=>?_))|(refine wayF (fun h55=>?_) (fun h55=>?_)))
      ·obtain ⟨ki,hki⟩:=some_at h55
       obtain ⟨ci,hci⟩:∃ci,n.fKids[i]? =some ci:=⟨_,List.getElem?_eq_getElem (by omega)⟩
       have hes:=zip_at hki hci
       by_cases hia:i=pre.length
       ·subst hia
        have dia:decide (((pre.length:Nat):Int)=((pre.length:Int)))=true:=decide_eq_true (by omega)
        have hJ:=joinP_at (es:=n.fKeys.zip n.fKids) (at_:=pre.length) (kk:=kk1)
        have hged:((n.fKeys.zip n.fKids).getD pre.length ([],0)).1=ki:=by rw [List.getD,hes];rfl
        have hhd:kk1.headD ([],0)=(s1.key,s1.page):=by rw [hkk1];rfl
        rw [hged,hhd] at hJ
        have hk0:lget (strs (kk1.map (·.1))) 0=[.str s1.key]:=by rw [hkk1];rfl
        have hkpos:0<kk1.length:=by rw [hkk1];simp
        have hsnd:kk1.map (·.2)=s1.page::(kk1.drop 1).map (·.2):=by rw [hkk1];rfl
        generalize hJi:joinP (n.fKeys.zip n.fKids) pre.length kk1 pre.length=J at*
        cases hlt:bLess s1.key ki
        ·have hkm:kmin ki s1.key=ki:=if_neg (by unfold klt;rw [hlt];simp)
         rw [hkm] at hJ
         simp -implicitDefEqProofs only [go_sem,dia,lget_strs hki,lget_ints hci,hk0,hlt,hJi]
         repeat ((first|refine rq ?_|refine way (fun h=>absurd h (by simp)) (fun _=>?_)|refine way (fun _=>?_) (fun h=>absurd h (by simp))|refine req ⟨by omega,strs_c1,strs_o⟩ ?_|refine req ⟨by omega,ints_c1,ints_o⟩ ?_|fail);simp -implicitDefEqProofs only [go_sem,dia,lget_strs hki,lget_ints hci,hk0,hlt,hJi,strs_kk,ints_kk,toNat1,strs_drop1,ints_kka,strs_len1,ints_length,List.length_map,List.length_drop])
         rw [wrap_succ (by simp only [LEN];omega)]
         refine next_data (pre.length+1) ?_ (by omega) (by omega)
         have hL1:J.length+1+(kk1.length - 1)=J.length+kk1.length:=by omega
         have hL2:J.length+(kk1.length - 1+1)=J.length+kk1.length:=by omega
         simp only [hJ,strs_app2,ints_app2,List.map_append,List.map_cons,←hsnd,List.length_append,List.length_cons,List.length_drop,hL1,hL2]
        ·have hkm:kmin ki s1.key=s1.key:=if_pos hlt
         rw [hkm] at hJ
         simp -implicitDefEqProofs only [go_sem,dia,lget_strs hki,lget_ints hci,hk0,hlt,hJi]
         repeat ((first|refine rq ?_|refine way (fun h=>absurd h (by simp)) (fun _=>?_)|refine way (fun _=>?_) (fun h=>absurd h (by simp))|refine req ⟨by omega,strs_c1,strs_o⟩ ?_|refine req ⟨by omega,ints_c1,ints_o⟩ ?_|fail);simp -implicitDefEqProofs only [go_sem,dia,lget_strs hki,lget_ints hci,hk0,hlt,hJi,strs_kk,ints_kk,toNat1,strs_drop1,ints_kka,strs_len1,ints_length,List.length_map,List.length_drop])
         rw [wrap_succ (by simp only [LEN];omega)]
         refine next_data (pre.length+1) ?_ (by omega) (by omega)
         have hL1:J.length+1+(kk1.length - 1)=J.length+kk1.length:=by omega
         have hL2:J.length+(kk1.length - 1+1)=J.length+kk1.length:=by omega
         simp only [hJ,strs_app2,ints_app2,List.map_append,List.map_cons,←hsnd,List.length_append,List.length_cons,List.length_drop,hL1,hL2]
       ·have dia:decide ((i:Int)=((pre.length:Int)))=false:=decide_eq_false (by omega)
        have hJ:=joinP_ne (kk:=kk1) hes hia
        simp -implicitDefEqProofs only [go_sem,dia,lget_strs hki,lget_ints hci]
        repeat ((first|refine rq ?_|fail);simp -implicitDefEqProofs only [go_sem,dia,lget_strs hki,lget_ints hci,strs_kk,ints_kk])
        rw [wrap_succ (by simp only [LEN];omega)]
        refine next_data (i+1) ?_ (by omega) (by omega)
        simp [hJ]
      ·have hi:i=(n.fKeys.zip n.fKids).length:=by omega
       rw [hi,joinP_end (by omega)]
       generalize hE:joinE (n.fKeys.zip n.fKids) pre.length kk1=E at*
       simp -implicitDefEqProofs only [go_sem]
       repeat ((first|refine rq ?_|fail);simp -implicitDefEqProofs only [go_sem])
       refine call_boxO true (xs:=[.agg n'.cells]) hhalf rfl rfl rfl (by simp -implicitDefEqProofs only [go_sem,GNode.cells_eq,hnK,hnI,hnV,strs_kka,ints_kka];first|done|rfl) rfl rfl rfl rfl (.inl rfl) ?_
       simp -implicitDefEqProofs only [go_sem,wV_eq,kkH_eq]
       repeat ((first|refine rq ?_|fail);simp -implicitDefEqProofs only [go_sem,wV_eq,kkH_eq])
       refine ks_DropPage w2 page hsw2 (by simp -implicitDefEqProofs only [go_sem,GWork.cells_eq];first|done|rfl) ?_
       rw [hde]
       simp -implicitDefEqProofs only [go_sem,GWork.cells_eq,wV_eq,kkH_eq]
       repeat ((first|refine rq ?_|fail);simp -implicitDefEqProofs only [go_sem,GWork.cells_eq,wV_eq,kkH_eq])
       trace_state
end Go.Rx
