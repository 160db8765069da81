/-
  Part B4: lemmas on an evaluator over plain data of the model's code, plain laws on lists and numbers, or contracts of functions of the program; each lemma names its conditions.
-/
import Derived.Test.YtmeinhaecplpkaaGreatRB3
import Derived.Test.YtmeinhaecplpkaaGreatRP3

set_option linter.unusedSimpArgs false
set_option linter.unusedVariables false
namespace Go.Rx
open Go
attribute [local irreducible] Req Way WayG Sel callVC CallOK seqVC cVC loopVC nextK
theorem ktake {P:Program} {f:FuncId} {h:Heap} {tb:Nat} {K:OK} {args:List V} {xs:List D} {ls:List Nat} {res:V} (hc:CallOK P f (xs.map .d) [] (xs.map fun _=> .dead) res []) (hg:toDs h args=some (xs,ls))
  (hk:K (renV (bk tb []) res) (ls.map (·,none)++[])):callVC P h tb f args K:=call_take hg hc rfl hk
@[go_sem] def hr194:Hints
 |0=> [0,1]|1=> [1,2]|2=> [1,2,5]|3=> [1,2,5]|4=> [1,2,5]|5=> [2,5,6,7]|6=> [5]|7=> [2,5,6]|8=> []|_=> []
@[go_sem] def hl194:Hints
 |2=> [1,2,5]|_=> []
attribute [go_sem] Go.Proofs.Tryz.results194
set_option maxRecDepth 100000 in
set_option maxHeartbeats 16000000 in
theorem cs_Deep (d:GDisk) (root:Int) (hgt:Nat) (fk:Key) (ps:List GPair) (pg:List Int) (hd:diskOk d) (h8:hgt<8) (ht:Tre (rdW d) hgt root fk ps pg):CallOK Go.Proofs.Tryz.prog 194 [.d (.agg d.cells),.d (.int .i64 root)] [] [.dead,.dead] (.d (.int .i64 ((hgt+1:Nat):Int))) []:=by
 refine call_of tysZOK mixedZ Go.Proofs.Tryz.func194 (by kernel_rfl) rfl (np:=[false,false]) (by kernel_rfl) hr194 hl194 (by simp [Go.Proofs.Tryz.ntmps194]) ?_
 simp -implicitDefEqProofs only [go_sem,GDisk.cells]
 refine loop_data (α:=Nat×Int) (fun x=>⟨[(1,.d (.int .i64 x.2)),(2,.ref 0 0),(5,.d (.int .i64 ((x.1+1:Nat):Int)))],[(0,some (.box [.d (.sl (strs d.fPages)),.d (.sl (GPutS d.fLate))]))]⟩)
  (fun x=>x.1≤hgt∧∃fk ps pg,Tre (rdW d) (hgt - x.1) x.2 fk ps pg) (fun x=>hgt - x.1) (0,root) rfl ⟨Nat.zero_le _,fk,ps,pg,ht⟩ ?_
 rintro ⟨k,p⟩ ⟨k1,fk',ps',pg',k2⟩
 simp only at k1 k2
 have dk:decide (((k+1:Nat):Int)≤8)=true:=decide_eq_true (by omega)
 obtain ⟨n,C,hrd,hfk,hcand,hpg⟩:=tre_iff.1 k2
 have hrn:readNode (readPage d p)=some n:=hrd
 have hok:=rdW_ok _ _ hrd
 simp -implicitDefEqProofs only [go_sem,dk]
 repeat ((first|refine rq ?_|refine way (fun h=>absurd h (by simp)) (fun _=>?_)|refine way (fun _=>?_) (fun h=>absurd h (by simp))|fail);simp -implicitDefEqProofs only [go_sem,dk])
 refine ks_ReadPage d p (by have:=hd.2.1;omega) (by have:=hd.2.2.1;omega) rfl ?_
 simp -implicitDefEqProofs only [go_sem]
 refine ks_ReadNode (readPage d p) (by have:=readPage_le hd p;omega) rfl ?_
 rw [hrn]
 simp only [nodeV_some]
 cases he:hgt - k with
 |zero=>
  rw [he] at hcand
  obtain ⟨hleaf,_,_⟩:=hcand
  have hk:k=hgt:=by omega
  simp -implicitDefEqProofs only [go_sem,hleaf]
  repeat ((first|refine rq ?_|refine way (fun h=>absurd h (by simp)) (fun _=>?_)|refine way (fun _=>?_) (fun h=>absurd h (by simp))|fail);simp -implicitDefEqProofs only [go_sem,hleaf])
  rw [hk]
 |succ h2=>
  rw [he] at hcand
  obtain ⟨hleaf,ks,g4,g5,g6,g7,g8,g9⟩:=hcand
  obtain ⟨s,ks',rfl⟩:∃s ks',ks=s::ks':=by
   have:=hok.1
   rw [g4,List.length_map] at this
   cases ks with
   |nil=>simp at this
   |cons s ks'=>exact ⟨s,ks',rfl⟩
  have hk0:lget (ints n.fKids) 0=[.int .i64 s.page]:=lget_ints (by rw [g5];rfl)
  have hkl:n.fKids.length=ks'.length+1:=by rw [g5];simp
  simp -implicitDefEqProofs only [go_sem,hleaf,hk0]
  repeat ((first|refine rq ?_|refine way (fun h=>absurd h (by simp)) (fun _=>?_)|refine way (fun _=>?_) (fun h=>absurd h (by simp))|fail);simp -implicitDefEqProofs only [go_sem,hleaf,hk0])
  have hw:IntKind.i64.wrap (((k+1:Nat):Int)+1)=((k+1+1:Nat):Int):=wrap_succ (by simp only [LEN];omega)
  rw [hw]
  refine next_data (k+1,s.page) rfl ⟨by simp only;omega,s.fst,s.pairs,s.pages,?_⟩ (by simp only;omega)
  have e1:hgt - (k+1)=h2:=by omega
  simp only
  rw [e1]
  exact g6 s (by simp)
theorem ks_Deep {h:Heap} {tb:Nat} {K:OK} {args:List V} {ls:List Nat} (d:GDisk) (root:Int) (hgt:Nat) (fk:Key) (ps:List GPair) (pg:List Int) (hd:diskOk d) (h8:hgt<8) (ht:Tre (rdW d) hgt root fk ps pg) (hg:toDs h args=some ([.agg d.cells,.int .i64 root],ls))
  (hk:K (renV (bk tb ([])) (.d (.int .i64 ((hgt+1:Nat):Int)))) (updN tb ([]) ([]))):callVC Go.Proofs.Tryz.prog h tb 194 args K:=
 call_free hg (cs_Deep d root hgt fk ps pg hd h8 ht) rfl (.inr ⟨flat_of rfl,flatHB_of rfl⟩) hk
def putKV (w:GWork) (root:Int) (key val:Key):V:=match putK w root key val with
 |some (w',r')=> .tup [.d (.agg w'.cells),.d (.int .i64 r'),.d (.bool true)]
 |none=> .tup [.d (.agg w.cells),.d (.int .i64 root),.d (.bool false)]
@[go_sem] def hr144:Hints
 |0=> [0,1,2,3]|1=> [1,2,3,4,8]|2=> [1,2,3,4,8,11]|3=> [1,8,11]|4=> [1,2,3,4,8,11]|5=> [1,2,3,4,8,11]|6=> [1,8,11,12,13]|7=> [1,8,11]|8=> [8,12,13]|9=> [1,2,3,4,8,11]|10=> [1,2,3,8,11,14]|11=> [1,8,11,14,15,16,17]|12=> [1,8,11]|13=> [1,8,11,14,15,16]|14=> [8,14,16]|15=> [1,8,11,14,15,16]|16=> [1,8,11]|17=> [1,8,11,14,15,16]|18=> [1,8,11,18,19]|19=> [1,8,11]|20=> [8,18,19]|_=> []
@[go_sem] def hl144:Hints:=fun _=> []
attribute [go_sem] Go.Proofs.Tryz.results144
set_option maxRecDepth 100000 in
set_option maxHeartbeats 16000000 in
theorem cs_PutKey {ours:Int→Prop} {B:List Int} {ps:List GPair} {pg:List Int} (w:GWork) (root:Int) (key val:Key) (hB:B.length≤1000) (hx:Txs ours B w root ps pg):CallOK Go.Proofs.Tryz.prog 144 [.d (.agg w.cells),.d (.int .i64 root),.d (.str key),.d (.str val)] [] [.dead,.dead,.dead,.dead] (putKV w root key val) []:=by
 refine call_fr tysZOK mixedZ Go.Proofs.Tryz.func144 (by kernel_rfl) rfl (by kernel_rfl) hr144 hl144 (by simp [Go.Proofs.Tryz.ntmps144]) rfl ?_
 have hsw:=hx.ok.smallW hB
 simp -implicitDefEqProofs only [go_sem,GWork.cells]
 refine kdata (xs:=[.agg w.cells]) (cs_l08CopyF w hsw) (by simp -implicitDefEqProofs only [go_sem,GWork.cells_eq];first|done|rfl) rfl ?_
 unfold putKV putK
 by_cases h1:24<key.length∨24<val.length
 ·have d1:decide ((24:Int)<key.length)=true∨decide ((24:Int)<key.length)=false∧decide ((24:Int)<val.length)=true:=by
   by_cases hk:24<key.length
   ·exact .inl (decide_eq_true (by omega))
   ·exact .inr ⟨decide_eq_false (by omega),decide_eq_true (by omega)⟩
  rw [if_pos h1]
  rcases d1 with d1|⟨d1,d2⟩
  ·simp -implicitDefEqProofs only [go_sem,d1,GWork.cells_eq]
   repeat ((first|refine rq ?_|refine way (fun h=>absurd h (by simp)) (fun _=>?_)|refine way (fun _=>?_) (fun h=>absurd h (by simp))|fail);simp -implicitDefEqProofs only [go_sem,d1,GWork.cells_eq])
  ·simp -implicitDefEqProofs only [go_sem,d1,d2,GWork.cells_eq]
   repeat ((first|refine rq ?_|refine way (fun h=>absurd h (by simp)) (fun _=>?_)|refine way (fun _=>?_) (fun h=>absurd h (by simp))|fail);simp -implicitDefEqProofs only [go_sem,d1,d2,GWork.cells_eq])
 ·have d1:decide ((24:Int)<key.length)=false:=decide_eq_false (by omega)
  have d2:decide ((24:Int)<val.length)=false:=decide_eq_false (by omega)
  rw [if_neg h1]
  by_cases hr:root=0
  ·have dr:=decide_eq_true hr
   rw [if_pos hr]
   simp -implicitDefEqProofs only [go_sem,d1,d2,dr,GWork.cells_eq]
   repeat ((first|refine rq ?_|refine way (fun h=>absurd h (by simp)) (fun _=>?_)|refine way (fun _=>?_) (fun h=>absurd h (by simp))|fail);simp -implicitDefEqProofs only [go_sem,d1,d2,dr,GWork.cells_eq])
   refine ktake (xs:=[.agg w.cells,.agg (leafB [⟨key,val⟩]).cells]) (cs_PutNodeF w (leafB [⟨key,val⟩]) hsw (by simp [leafB,LEN]) (by simp [leafB,LEN]) (by simp [leafB,LEN])) (ls:=[3000,5000]) (by simp -implicitDefEqProofs only [go_sem,GWork.cells_eq,GNode.cells_eq,leafB];first|done|rfl) ?_
   cases hp:putN w (leafB [⟨key,val⟩]) with
   |none=>
    have hW:putW w (leafB [⟨key,val⟩])=(w,0):=by rw [putW,hp]
    have d0:decide ((0:Int)=0)=true:=rfl
    rw [hW]
    simp -implicitDefEqProofs only [go_sem,d0,GWork.cells_eq]
    repeat ((first|refine rq ?_|refine way (fun h=>absurd h (by simp)) (fun _=>?_)|refine way (fun _=>?_) (fun h=>absurd h (by simp))|fail);simp -implicitDefEqProofs only [go_sem,d0,GWork.cells_eq])
   |some q=>
    obtain ⟨u2,pg2⟩:=q
    have hW:putW w (leafB [⟨key,val⟩])=(u2,pg2):=by rw [putW,hp]
    have dp:decide (pg2=0)=false:=decide_eq_false (putN_page hp)
    rw [hW]
    simp -implicitDefEqProofs only [go_sem,dp,GWork.cells_eq]
    repeat ((first|refine rq ?_|refine way (fun h=>absurd h (by simp)) (fun _=>?_)|refine way (fun _=>?_) (fun h=>absurd h (by simp))|fail);simp -implicitDefEqProofs only [go_sem,dp,GWork.cells_eq])
  ·have dr:=decide_eq_false hr
   rw [if_neg hr]
   rcases hx.tree with ⟨t1,_⟩|⟨t1,t2,hgt,fk,t3,t4⟩
   ·exact absurd t1 hr
   have hlv:∀q∈pg,live B w q:=fun q hq=>(hx.now q).2 hq
   have hput:=cs_put hB key val 8 hgt w root fk ps pg (by omega) hx.ok t4 t2 hlv
   simp -implicitDefEqProofs only [go_sem,d1,d2,dr,GWork.cells_eq]
   repeat ((first|refine rq ?_|refine way (fun h=>absurd h (by simp)) (fun _=>?_)|refine way (fun _=>?_) (fun h=>absurd h (by simp))|fail);simp -implicitDefEqProofs only [go_sem,d1,d2,dr,GWork.cells_eq])
   refine kdata (xs:=[.agg w.cells]) (cs_l08CopyF w hsw) (by simp -implicitDefEqProofs only [go_sem,GWork.cells_eq];first|done|rfl) rfl ?_
   simp -implicitDefEqProofs only [go_sem,GWork.cells_eq]
   repeat ((first|refine rq ?_|fail);simp -implicitDefEqProofs only [go_sem,GWork.cells_eq])
   cases hu:putU 8 w root key val with
   |none=>
    rw [hu] at hput
    obtain ⟨w1,kk1,hput⟩:=hput
    unfold PutC at hput
    refine call_boxO false (xs:=[.int .i64 root,.int .i64 0,.str key,.str val]) hput rfl rfl rfl (by simp -implicitDefEqProofs only [go_sem];first|done|rfl) rfl rfl rfl rfl (.inr (.inl rfl)) ?_
    simp -implicitDefEqProofs only [go_sem,wV_eq,kkH_eq]
    repeat ((first|refine rq ?_|refine way (fun h=>absurd h (by simp)) (fun _=>?_)|refine way (fun _=>?_) (fun h=>absurd h (by simp))|fail);simp -implicitDefEqProofs only [go_sem,wV_eq,kkH_eq,GWork.cells_eq])
    rfl
   |some r=>
    obtain ⟨w1,kk1,dp⟩:=r
    rw [hu] at hput
    simp only at hput
    unfold PutC at hput
    obtain ⟨hdp,subs1,hkk,r1⟩:=putU_spec hx.ok t4 t2 hlv hu
    obtain ⟨s1,rest,hsub,hf1,hrl⟩:=r1.head
    have hsw1:=r1.ok.smallW hB
    refine call_boxO false (xs:=[.int .i64 root,.int .i64 0,.str key,.str val]) hput rfl rfl rfl (by simp -implicitDefEqProofs only [go_sem];first|done|rfl) rfl rfl rfl rfl (.inr (.inl rfl)) ?_
    have hkk1:kk1=(s1.key,s1.page)::rest.map subKP:=by rw [hkk,hsub];rfl
    cases rest with
    |nil=>
     rw [hkk1]
     have hp0:lget (ints [s1.page]) 0=[.int .i64 s1.page]:=rfl
     have d11:decide (((1:Nat):Int)=1)=true:=rfl
     simp -implicitDefEqProofs only [go_sem,wV_eq,kkH_eq,hp0,d11]
     repeat ((first|refine rq ?_|refine way (fun h=>absurd h (by simp)) (fun _=>?_)|refine way (fun _=>?_) (fun h=>absurd h (by simp))|fail);simp -implicitDefEqProofs only [go_sem,wV_eq,kkH_eq,GWork.cells_eq,hp0,d11])
    |cons s2 rest=>
     have hr0:rest=[]:=by simpa using hrl
     subst hr0
     rw [hkk1]
     have hp0:lget (ints [s1.page,s2.page]) 0=[.int .i64 s1.page]:=rfl
     have d11:decide (((2:Nat):Int)=1)=false:=rfl
     have hT1:=r1.tre s1 (by rw [hsub];simp)
     have h7:(decide ((8:Int)≤((hgt+1:Nat):Int))=true∧7≤dp)∨(decide ((8:Int)≤((hgt+1:Nat):Int))=false∧¬7≤dp):=by
      by_cases h:7≤dp
      ·exact .inl ⟨decide_eq_true (by omega),h⟩
      ·exact .inr ⟨decide_eq_false (by omega),h⟩
     simp only [List.map_cons,List.map_nil,subKP]
     simp -implicitDefEqProofs only [go_sem,wV_eq,kkH_eq,hp0,d11]
     repeat ((first|refine rq ?_|refine way (fun h=>absurd h (by simp)) (fun _=>?_)|refine way (fun _=>?_) (fun h=>absurd h (by simp))|fail);simp -implicitDefEqProofs only [go_sem,wV_eq,kkH_eq,GWork.cells_eq,hp0,d11])
     refine ks_Deep w1.fDisk s1.page hgt s1.fst s1.pairs s1.pages r1.ok.disk t3 hT1 (ls:=[]) (by simp -implicitDefEqProofs only [go_sem,GDisk.cells_eq];first|done|rfl) ?_
     rcases h7 with ⟨d7,h7⟩|⟨d7,h7⟩
     ·rw [if_pos h7]
      simp -implicitDefEqProofs only [go_sem,d7,GWork.cells_eq]
      repeat ((first|refine rq ?_|refine way (fun h=>absurd h (by simp)) (fun _=>?_)|refine way (fun _=>?_) (fun h=>absurd h (by simp))|fail);simp -implicitDefEqProofs only [go_sem,d7,GWork.cells_eq])
     ·rw [if_neg h7]
      simp -implicitDefEqProofs only [go_sem,d7,GWork.cells_eq]
      repeat ((first|refine rq ?_|refine way (fun h=>absurd h (by simp)) (fun _=>?_)|refine way (fun _=>?_) (fun h=>absurd h (by simp))|fail);simp -implicitDefEqProofs only [go_sem,d7,GWork.cells_eq])
      have hbr:branchOf [(s1.key,s1.page),(s2.key,s2.page)]=⟨false,[s1.key,s2.key],[],[s1.page,s2.page]⟩:=rfl
      refine ktake (xs:=[.agg w1.cells,.agg (branchOf [(s1.key,s1.page),(s2.key,s2.page)]).cells]) (cs_PutNodeF w1 (branchOf [(s1.key,s1.page),(s2.key,s2.page)]) hsw1 (by simp [branchOf,LEN]) (by simp [branchOf,LEN]) (by simp [branchOf,LEN])) (ls:=[8,9]) (by simp -implicitDefEqProofs only [go_sem,GWork.cells_eq,GNode.cells_eq,hbr];first|done|rfl) ?_
      cases hp:putN w1 (branchOf [(s1.key,s1.page),(s2.key,s2.page)]) with
      |none=>
       have hW:putW w1 (branchOf [(s1.key,s1.page),(s2.key,s2.page)])=(w1,0):=by rw [putW,hp]
       have d0:decide ((0:Int)=0)=true:=rfl
       rw [hW]
       simp -implicitDefEqProofs only [go_sem,d0,GWork.cells_eq]
       repeat ((first|refine rq ?_|refine way (fun h=>absurd h (by simp)) (fun _=>?_)|refine way (fun _=>?_) (fun h=>absurd h (by simp))|fail);simp -implicitDefEqProofs only [go_sem,d0,GWork.cells_eq])
      |some q=>
       obtain ⟨u2,pg2⟩:=q
       have hW:putW w1 (branchOf [(s1.key,s1.page),(s2.key,s2.page)])=(u2,pg2):=by rw [putW,hp]
       have dp:decide (pg2=0)=false:=decide_eq_false (putN_page hp)
       rw [hW]
       simp -implicitDefEqProofs only [go_sem,dp,GWork.cells_eq]
       repeat ((first|refine rq ?_|refine way (fun h=>absurd h (by simp)) (fun _=>?_)|refine way (fun _=>?_) (fun h=>absurd h (by simp))|fail);simp -implicitDefEqProofs only [go_sem,dp,GWork.cells_eq])
end Go.Rx
