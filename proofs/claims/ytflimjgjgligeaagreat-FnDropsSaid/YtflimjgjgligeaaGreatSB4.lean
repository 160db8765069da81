/-
  Part B4: lemmas on an evaluator over plain data of the model's code, plain laws on lists and numbers, or contracts of functions of the program; each lemma names its conditions.
-/
import Derived.Test.YtflimjgjgligeaaGreatSB3
import Derived.Test.YtflimjgjgligeaaGreatSP3

set_option linter.unusedSimpArgs false
set_option linter.unusedVariables false
set_option maxRecDepth 100000
set_option maxHeartbeats 16000000
set_option linter.defProp false
namespace Go.Rx
open Go
attribute [local irreducible] Req Way WayG Sel Z2 ZQ Zaz cVC Zai ZaO
theorem ZuN {P:Program} {f:FuncId} {h:Heap} {tb:Nat} {K:OK} {args:List V} {xs:List D} {ls:List Nat} {res:V} (hc:ZQ P f (xs.map .d) [] (xs.map fun _=> .dead) res []) (hg:toDs h args=some (xs,ls))
  (hk:K (renV (bk tb []) res) (ls.map (·,none)++[])):Z2 P h tb f args K:=ZvO hg hc rfl hk
@[go_sem] def hr126:ZW:=hh [[0,1],[1,2],[1,2,5],[1,2,5],[1,2,5],[2,5,6,7],[5],[2,5,6],[]]
@[go_sem] def hl126:ZW:=hh [[],[],[1,2,5]]
attribute [go_sem] Go.Proofs.Tryz.results126
theorem Zzu (d:ZT) (root:Int) (hgt:Nat) (fk:Key) (ps:List ZR) (pg:List Int) (hd:Za5 d) (h8:hgt<8) (ht:Tre (rdW d) hgt root fk ps pg):ZQ Go.Proofs.Tryz.prog 126 [.d (.agg d.cells),.d (.int .i64 root)] [] [.dead,.dead] (.d (.int .i64 ((hgt+1:Nat):Int))) []:=by
 refine cof Go.Proofs.Tryz.func126 hr126 hl126 [false,false] ?_;simp -implicitDefEqProofs only [go_sem,ZT.cells];refine ZY (α:=Nat×Int) (fun x=>⟨[(1,.d (.int .i64 x.2)),(2,.ref 0 0),(5,.d (.int .i64 ((x.1+1:Nat):Int)))],[(0,some (.box [.d (.sl (strs d.Zv)),.d (.sl (Zae d.Zm))]))]⟩)
  (fun x=>x.1≤hgt∧∃fk ps pg,Tre (rdW d) (hgt - x.1) x.2 fk ps pg) (fun x=>hgt - x.1) (0,root) rfl ⟨Nat.zero_le _,fk,ps,pg,ht⟩ ?_
 rintro ⟨k,p⟩ ⟨k1,fk',ps',pg',k2⟩;simp only at k1 k2;have dk:decide (((k+1:Nat):Int)≤8)=true:=decide_eq_true (by omega);obtain ⟨n,C,hrd,hfk,hcand,hpg⟩:=ZhK.1 k2;have hrn:ZaH (ZU d p)=some n:=hrd;have hok:=Zcx _ _ hrd;simp -implicitDefEqProofs only [go_sem,dk];repeat ((first|refine rq ?_|refine way (fun h=>absurd h (by simp)) (fun _=>?_)|refine way (fun _=>?_) (fun h=>absurd h (by simp))|fail);simp -implicitDefEqProofs only [go_sem,dk])
 refine Zal d p (by have:=hd.2.1;omega) (by have:=hd.2.2.1;omega) rfl ?_;simp -implicitDefEqProofs only [go_sem];refine Zas (ZU d p) (by have:=Zay hd p;omega) rfl ?_;rw [hrn];simp only [ZaE];cases he:hgt - k with
 |zero=>
  rw [he] at hcand;obtain ⟨hleaf,_,_⟩:=hcand;have hk:k=hgt:=by omega
  simp -implicitDefEqProofs only [go_sem,hleaf];repeat ((first|refine rq ?_|refine way (fun h=>absurd h (by simp)) (fun _=>?_)|refine way (fun _=>?_) (fun h=>absurd h (by simp))|fail);simp -implicitDefEqProofs only [go_sem,hleaf])
  rw [hk]
 |succ h2=>
  rw [he] at hcand;obtain ⟨hleaf,ks,g4,g5,g6,g7,g8,g9⟩:=hcand;obtain ⟨s,ks',rfl⟩:∃s ks',ks=s::ks':=by
   have:=hok.1;rw [g4,List.length_map] at this;cases ks with
   |nil=>simp at this
   |cons s ks'=>exact ⟨s,ks',rfl⟩
  have hk0:lget (ints n.Zk) 0=[.int .i64 s.page]:=ZO (by rw [g5];rfl);have hkl:n.Zk.length=ks'.length+1:=by rw [g5];simp
  simp -implicitDefEqProofs only [go_sem,hleaf,hk0];repeat ((first|refine rq ?_|refine way (fun h=>absurd h (by simp)) (fun _=>?_)|refine way (fun _=>?_) (fun h=>absurd h (by simp))|fail);simp -implicitDefEqProofs only [go_sem,hleaf,hk0])
  have hw:IntKind.i64.wrap (((k+1:Nat):Int)+1)=((k+1+1:Nat):Int):=ZV (by simp only [LEN];omega);rw [hw];refine ZP (k+1,s.page) rfl ⟨by simp only;omega,s.fst,s.pairs,s.pages,?_⟩ (by simp only;omega);have e1:hgt - (k+1)=h2:=by omega
  simp only;rw [e1];exact g6 s (by simp)
def Zy8 (d:ZT) (root:Int) (hgt:Nat) (fk:Key) (ps:List ZR) (pg:List Int) (hd:Za5 d) (h8:hgt<8) (ht:Tre (rdW d) hgt root fk ps pg):=kf (Zzu d root hgt fk ps pg hd h8 ht)
def ZyR (w:ZS) (root:Int) (key val:Key):V:=match putK w root key val with
 |some (w',r')=> .tup [.d (.agg w'.cells),.d (.int .i64 r'),.d (.bool true)]
 |none=> .tup [.d (.agg w.cells),.d (.int .i64 root),.d (.bool false)]
@[go_sem] def hr55:ZW:=hh [[0,1,2,3],[1,2,3,4,8],[1,2,3,4,8,11],[1,8,11],[1,2,3,4,8,11],[1,2,3,4,8,11],[1,8,11,12,13],[1,8,11],[8,12,13],[1,2,3,4,8,11],[1,2,3,8,11,14],[1,8,11,14,15,16,17],[1,8,11],[1,8,11,14,15,16],[8,14,16],[1,8,11,14,15,16],[1,8,11],[1,8,11,14,15,16],[1,8,11,18,19],[1,8,11],[8,18,19]]
@[go_sem] def hl55:ZW:=hh []
attribute [go_sem] Go.Proofs.Tryz.results55
theorem ZvC {ours:Int→Prop} {B:List Int} {ps:List ZR} {pg:List Int} (w:ZS) (root:Int) (key val:Key) (hB:B.length≤1000) (hx:Txs ours B w root ps pg):ZQ Go.Proofs.Tryz.prog 55 [.d (.agg w.cells),.d (.int .i64 root),.d (.str key),.d (.str val)] [] [.dead,.dead,.dead,.dead] (ZyR w root key val) []:=by
 refine cofF Go.Proofs.Tryz.func55 hr55 hl55 ?_;have hsw:=hx.ok.smallW hB;simp -implicitDefEqProofs only [go_sem,ZS.cells];refine Zd3 (xs:=[.agg w.cells]) (Zd8 w hsw) (by simp -implicitDefEqProofs only [go_sem,ZS.cells_eq];first|done|rfl) rfl ?_;unfold ZyR putK;by_cases h1:24<key.length∨24<val.length
 ·have d1:decide ((24:Int)<key.length)=true∨decide ((24:Int)<key.length)=false∧decide ((24:Int)<val.length)=true:=by
   by_cases hk:24<key.length
   ·exact .inl (decide_eq_true (by omega))
   ·exact .inr ⟨decide_eq_false (by omega),decide_eq_true (by omega)⟩
  rw [if_pos h1];rcases d1 with d1|⟨d1,d2⟩
  ·simp -implicitDefEqProofs only [go_sem,d1,ZS.cells_eq];repeat ((first|refine rq ?_|refine way (fun h=>absurd h (by simp)) (fun _=>?_)|refine way (fun _=>?_) (fun h=>absurd h (by simp))|fail);simp -implicitDefEqProofs only [go_sem,d1,ZS.cells_eq])
  ·simp -implicitDefEqProofs only [go_sem,d1,d2,ZS.cells_eq];repeat ((first|refine rq ?_|refine way (fun h=>absurd h (by simp)) (fun _=>?_)|refine way (fun _=>?_) (fun h=>absurd h (by simp))|fail);simp -implicitDefEqProofs only [go_sem,d1,d2,ZS.cells_eq])
 ·have d1:decide ((24:Int)<key.length)=false:=decide_eq_false (by omega);have d2:decide ((24:Int)<val.length)=false:=decide_eq_false (by omega);rw [if_neg h1];by_cases hr:root=0
  ·have dr:=decide_eq_true hr;rw [if_pos hr];simp -implicitDefEqProofs only [go_sem,d1,d2,dr,ZS.cells_eq];repeat ((first|refine rq ?_|refine way (fun h=>absurd h (by simp)) (fun _=>?_)|refine way (fun _=>?_) (fun h=>absurd h (by simp))|fail);simp -implicitDefEqProofs only [go_sem,d1,d2,dr,ZS.cells_eq])
   refine ZuN (xs:=[.agg w.cells,.agg (Za2 [⟨key,val⟩]).cells]) (Zcb w (Za2 [⟨key,val⟩]) hsw (by simp [Za2,LEN]) (by simp [Za2,LEN]) (by simp [Za2,LEN])) (ls:=[3000,5000]) (by simp -implicitDefEqProofs only [go_sem,ZS.cells_eq,Z1.cells_eq,Za2];first|done|rfl) ?_;cases hp:putN w (Za2 [⟨key,val⟩]) with
   |none=>
    have hW:putW w (Za2 [⟨key,val⟩])=(w,0):=by rw [putW,hp]
    have d0:decide ((0:Int)=0)=true:=rfl;rw [hW];simp -implicitDefEqProofs only [go_sem,d0,ZS.cells_eq];repeat ((first|refine rq ?_|refine way (fun h=>absurd h (by simp)) (fun _=>?_)|refine way (fun _=>?_) (fun h=>absurd h (by simp))|fail);simp -implicitDefEqProofs only [go_sem,d0,ZS.cells_eq])
   |some q=>
    obtain ⟨u2,pg2⟩:=q;have hW:putW w (Za2 [⟨key,val⟩])=(u2,pg2):=by rw [putW,hp]
    have dp:decide (pg2=0)=false:=decide_eq_false (Zcl hp);rw [hW];simp -implicitDefEqProofs only [go_sem,dp,ZS.cells_eq];repeat ((first|refine rq ?_|refine way (fun h=>absurd h (by simp)) (fun _=>?_)|refine way (fun _=>?_) (fun h=>absurd h (by simp))|fail);simp -implicitDefEqProofs only [go_sem,dp,ZS.cells_eq])
  ·have dr:=decide_eq_false hr;rw [if_neg hr];rcases hx.tree with ⟨t1,_⟩|⟨t1,t2,hgt,fk,t3,t4⟩
   ·exact absurd t1 hr
   have hlv:∀q∈pg,live B w q:=fun q hq=>(hx.now q).2 hq
   have hput:=cs_put hB key val 8 hgt w root fk ps pg (by omega) hx.ok t4 t2 hlv;simp -implicitDefEqProofs only [go_sem,d1,d2,dr,ZS.cells_eq];repeat ((first|refine rq ?_|refine way (fun h=>absurd h (by simp)) (fun _=>?_)|refine way (fun _=>?_) (fun h=>absurd h (by simp))|fail);simp -implicitDefEqProofs only [go_sem,d1,d2,dr,ZS.cells_eq])
   refine Zd3 (xs:=[.agg w.cells]) (Zd8 w hsw) (by simp -implicitDefEqProofs only [go_sem,ZS.cells_eq];first|done|rfl) rfl ?_;simp -implicitDefEqProofs only [go_sem,ZS.cells_eq];repeat ((first|refine rq ?_|fail);simp -implicitDefEqProofs only [go_sem,ZS.cells_eq])
   cases hu:putU 8 w root key val with
   |none=>
    rw [hu] at hput;obtain ⟨w1,kk1,hput⟩:=hput;unfold PutC at hput;refine Za3 false (xs:=[.int .i64 root,.int .i64 0,.str key,.str val]) hput rfl rfl rfl (by simp -implicitDefEqProofs only [go_sem];first|done|rfl) rfl rfl rfl rfl (.inr (.inl rfl)) ?_;simp -implicitDefEqProofs only [go_sem,Z8,Zan];repeat ((first|refine rq ?_|refine way (fun h=>absurd h (by simp)) (fun _=>?_)|refine way (fun _=>?_) (fun h=>absurd h (by simp))|fail);simp -implicitDefEqProofs only [go_sem,Z8,Zan,ZS.cells_eq])
    rfl
   |some r=>
    obtain ⟨w1,kk1,dp⟩:=r;rw [hu] at hput;simp only at hput;unfold PutC at hput;obtain ⟨hdp,subs1,hkk,r1⟩:=Zfp hx.ok t4 t2 hlv hu;obtain ⟨s1,rest,hsub,hf1,hrl⟩:=r1.head;have hsw1:=r1.ok.smallW hB;refine Za3 false (xs:=[.int .i64 root,.int .i64 0,.str key,.str val]) hput rfl rfl rfl (by simp -implicitDefEqProofs only [go_sem];first|done|rfl) rfl rfl rfl rfl (.inr (.inl rfl)) ?_;have hkk1:kk1=(s1.key,s1.page)::rest.map ZaZ:=by rw [hkk,hsub];rfl
    cases rest with
    |nil=>
     rw [hkk1];have hp0:lget (ints [s1.page]) 0=[.int .i64 s1.page]:=rfl;have d11:decide (((1:Nat):Int)=1)=true:=rfl;simp -implicitDefEqProofs only [go_sem,Z8,Zan,hp0,d11];repeat ((first|refine rq ?_|refine way (fun h=>absurd h (by simp)) (fun _=>?_)|refine way (fun _=>?_) (fun h=>absurd h (by simp))|fail);simp -implicitDefEqProofs only [go_sem,Z8,Zan,ZS.cells_eq,hp0,d11])
    |cons s2 rest=>
     have hr0:rest=[]:=by simpa using hrl
     subst hr0;rw [hkk1];have hp0:lget (ints [s1.page,s2.page]) 0=[.int .i64 s1.page]:=rfl;have d11:decide (((2:Nat):Int)=1)=false:=rfl;have hT1:=r1.tre s1 (by rw [hsub];simp);have h7:(decide ((8:Int)≤((hgt+1:Nat):Int))=true∧7≤dp)∨(decide ((8:Int)≤((hgt+1:Nat):Int))=false∧¬7≤dp):=by
      by_cases h:7≤dp
      ·exact .inl ⟨decide_eq_true (by omega),h⟩
      ·exact .inr ⟨decide_eq_false (by omega),h⟩
     simp only [List.map_cons,List.map_nil,ZaZ];simp -implicitDefEqProofs only [go_sem,Z8,Zan,hp0,d11];repeat ((first|refine rq ?_|refine way (fun h=>absurd h (by simp)) (fun _=>?_)|refine way (fun _=>?_) (fun h=>absurd h (by simp))|fail);simp -implicitDefEqProofs only [go_sem,Z8,Zan,ZS.cells_eq,hp0,d11])
     refine Zy8 w1.Zc s1.page hgt s1.fst s1.pairs s1.pages r1.ok.disk t3 hT1 (ls:=[]) (by simp -implicitDefEqProofs only [go_sem,ZT.cells_eq];first|done|rfl) ?_;rcases h7 with ⟨d7,h7⟩|⟨d7,h7⟩
     ·rw [if_pos h7];simp -implicitDefEqProofs only [go_sem,d7,ZS.cells_eq];repeat ((first|refine rq ?_|refine way (fun h=>absurd h (by simp)) (fun _=>?_)|refine way (fun _=>?_) (fun h=>absurd h (by simp))|fail);simp -implicitDefEqProofs only [go_sem,d7,ZS.cells_eq])
     ·rw [if_neg h7];simp -implicitDefEqProofs only [go_sem,d7,ZS.cells_eq];repeat ((first|refine rq ?_|refine way (fun h=>absurd h (by simp)) (fun _=>?_)|refine way (fun _=>?_) (fun h=>absurd h (by simp))|fail);simp -implicitDefEqProofs only [go_sem,d7,ZS.cells_eq])
      have hbr:Z0 [(s1.key,s1.page),(s2.key,s2.page)]=⟨false,[s1.key,s2.key],[],[s1.page,s2.page]⟩:=rfl;refine ZuN (xs:=[.agg w1.cells,.agg (Z0 [(s1.key,s1.page),(s2.key,s2.page)]).cells]) (Zcb w1 (Z0 [(s1.key,s1.page),(s2.key,s2.page)]) hsw1 (by simp [Z0,LEN]) (by simp [Z0,LEN]) (by simp [Z0,LEN])) (ls:=[8,9]) (by simp -implicitDefEqProofs only [go_sem,ZS.cells_eq,Z1.cells_eq,hbr];first|done|rfl) ?_;cases hp:putN w1 (Z0 [(s1.key,s1.page),(s2.key,s2.page)]) with
      |none=>
       have hW:putW w1 (Z0 [(s1.key,s1.page),(s2.key,s2.page)])=(w1,0):=by rw [putW,hp]
       have d0:decide ((0:Int)=0)=true:=rfl;rw [hW];simp -implicitDefEqProofs only [go_sem,d0,ZS.cells_eq];repeat ((first|refine rq ?_|refine way (fun h=>absurd h (by simp)) (fun _=>?_)|refine way (fun _=>?_) (fun h=>absurd h (by simp))|fail);simp -implicitDefEqProofs only [go_sem,d0,ZS.cells_eq])
      |some q=>
       obtain ⟨u2,pg2⟩:=q;have hW:putW w1 (Z0 [(s1.key,s1.page),(s2.key,s2.page)])=(u2,pg2):=by rw [putW,hp]
       have dp:decide (pg2=0)=false:=decide_eq_false (Zcl hp);rw [hW];simp -implicitDefEqProofs only [go_sem,dp,ZS.cells_eq];repeat ((first|refine rq ?_|refine way (fun h=>absurd h (by simp)) (fun _=>?_)|refine way (fun _=>?_) (fun h=>absurd h (by simp))|fail);simp -implicitDefEqProofs only [go_sem,dp,ZS.cells_eq])
end Go.Rx
