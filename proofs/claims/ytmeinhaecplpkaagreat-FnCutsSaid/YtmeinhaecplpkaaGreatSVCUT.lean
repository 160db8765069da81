/-
  Part VCUT: lemmas on an evaluator over plain data of the model's code, plain laws on lists and numbers, or contracts of functions of the program; each lemma names its conditions.
-/
import Derived.Test.YtmeinhaecplpkaaGreatSA1
import Derived.Test.YtmeinhaecplpkaaGreatSA4
import Derived.Test.YtmeinhaecplpkaaGreatSA8
import Derived.Test.YtmeinhaecplpkaaGreatSB1
import Derived.Test.YtmeinhaecplpkaaGreatSC1
import Derived.Test.YtmeinhaecplpkaaGreatSC3
import Derived.Test.YtmeinhaecplpkaaGreatSC5
import Derived.Test.YtmeinhaecplpkaaGreatSE1
import Derived.Test.YtmeinhaecplpkaaGreatSE2
import Derived.Test.YtmeinhaecplpkaaGreatSE4
import Derived.Test.YtmeinhaecplpkaaGreatSE5
import Derived.Test.YtmeinhaecplpkaaGreatSE6
import Derived.Test.YtmeinhaecplpkaaGreatSG3
import Derived.Test.YtmeinhaecplpkaaGreatSN1
import Derived.Test.YtmeinhaecplpkaaGreatSN9
import Derived.Test.YtmeinhaecplpkaaGreatSNY
import Derived.Test.YtmeinhaecplpkaaGreatSP1
import Derived.Test.YtmeinhaecplpkaaGreatSP2
import Derived.Test.YtmeinhaecplpkaaGreatSP3
import Derived.Test.YtmeinhaecplpkaaGreatSP4
import Derived.Test.YtmeinhaecplpkaaGreatSP5
import Derived.Test.YtmeinhaecplpkaaGreatSR0

set_option linter.unusedSimpArgs false
set_option linter.unusedVariables false
set_option maxRecDepth 100000
set_option maxHeartbeats 16000000
set_option linter.defProp false
namespace Go.Rx
open Go Go.RowKit
section
variable {P:Program} {h:Heap} {tb:Nat} {f:FuncId} {args:List V} {K:OK} {xs:List D} {ls:List Nat} {res:V} {H':List (Nat×AObj)}
end
theorem ZD9 {h:Heap}:toDs h []=some ([],[]):=rfl
section
variable {w:World} {ok:Nat→Prop} {lam:Nat→Option Nat} {h:Heap}
end
end Go.Rx
namespace Go.Rx
open Go
theorem Tre.asc {rd:RD} (ho:rdOk rd):∀ {h:Nat} {p:Int} {f:Key} {ps:List ZR} {pg:List Int},Tre rd h p f ps pg→ascP ps
 |0,p,f,ps,pg,⟨n,h1,h2,h3,h4,h5⟩=>by
  have hn:=ho _ _ h1
  rw [h4,ZhF,Zb6 hn h2]
  exact hn.2.2.1
 |h+1,p,f,ps,pg,⟨n,ks,h1,h2,h3,h4,h5,h6,h7,h8,h9⟩=>by
  rw [h8]
  have hl:∀k∈ks,∀q∈k.pairs,kle k.key q.Zi:=fun k hk q hq=>Zdl (h7.1 k hk) (Tre.low ho (h6 k hk) q hq)
  have ha:∀k∈ks,ascP k.pairs:=fun k hk=>Tre.asc ho (h6 k hk)
  have h7':=h7.2
  clear h1 h2 h3 h4 h5 h6 h7 h8 h9
  induction ks with
  |nil=>exact List.Pairwise.nil
  |cons k ks ih=>
   obtain ⟨g1,g2⟩:=List.pairwise_cons.1 h7'
   unfold ascP
   rw [List.flatMap_cons,List.pairwise_append]
   refine ⟨ha k (by simp),ih (fun k hk=>hl k (by simp [hk])) (fun k hk=>ha k (by simp [hk])) g2,fun a ham b hb=>?_⟩
   obtain ⟨k2,hk2,hb⟩:=List.mem_flatMap.1 hb
   exact ZbB (g1 k2 hk2 a ham) (hl k2 (by simp [hk2]) b hb)
end Go.Rx
namespace Go.Rx
open Go
theorem Zdp.asc {rd:RD} (ho:rdOk rd) {root:Int} {ps:List ZR} {pg:List Int}:Zdp rd root ps pg→ascP ps
 | .inl ⟨_,h,_⟩=>by rw [h];exact List.Pairwise.nil
 | .inr ⟨_,_,_,_,_,h⟩=>h.asc ho
end Go.Rx
namespace Go.Rx
open Go
def ZDN:Nat→Cur→List Int×Cur
 |0,c=>([],c)
 |k+1,c=>((ZDN k c).1++[((ZDN k c).2.below 10000).1],((ZDN k c).2.below 10000).2)
def ZDP (code:List UInt8):List Int:=(ZDN 12 (Cur.new code).byte.2).1
theorem ZDO:∀ {k:Nat} {c:Cur},(ZDN k c).1.length=k
 |0,c=>rfl
 |k+1,c=>by simp [ZDN,ZDO]
theorem ZDT:∀ {k:Nat} {c:Cur},c.ok→(ZDN k c).2.ok
 |0,c,h=>h
 |k+1,c,h=>Cur.below_ok (ZDT h)
theorem ZDQ:∀ {k:Nat} {c:Cur},∀x∈(ZDN k c).1,0≤x∧x<10000
 |0,c,x,hx=>by cases hx
 |k+1,c,x,hx=>by
  simp only [ZDN,List.mem_append,List.mem_singleton] at hx
  rcases hx with hx|rfl
  ·exact ZDQ x hx
  ·exact Cur.below_range (by decide)
theorem ZDY {code:List UInt8}:∀x∈ZDP code,0≤x∧x<10000:=ZDQ
end Go.Rx
namespace Go.Rx
open Go
theorem ZDC {d0:ZT} {m:ZX} {oldest:Int} {pg0:List Int}:∀ {f i:Nat} {c:Cur} {t:GTxn} {ps:List ZR} {pg:List Int},ZcB d0 m oldest pg0 t ps pg→∃ps pg,ZcB d0 m oldest pg0 (Zky f i c t).1 ps pg
 |0,_,_,_,ps,pg,h=>⟨ps,pg,h⟩
 |f+1,i,c,t,ps,pg,h=>by
  rw [Zky]
  split
  ·obtain ⟨ps',pg',h2⟩:=ZoH (c:=(c.below 6).2) h
   exact ZDC h2
  ·exact ⟨ps,pg,h⟩
theorem ZDF {c:Cur}:∃s ps0 pg0 next view ps pg,Zap s ps0 pg0 next view∧s=(Zbr c).1.ZB∧ZcB s.Zc s.Zp (Zco s) pg0 (txnD c).1 ps pg:=by
 obtain ⟨pg0,view,h⟩:=ZrH (c:=c)
 obtain ⟨ps,pg,h2⟩:=ZDC (f:=6) (i:=0) (c:=(Zbr c).2) (ZlJ (oldest:=Zco (Zbr c).1.ZB) h.store.disk)
 exact ⟨_,_,_,_,_,ps,pg,h.store,rfl,h2⟩
end Go.Rx
namespace Go.Rx
open Go
attribute [local irreducible] Req Way WayG Sel Z2 ZQ Zaz cVC Zai ZaO
theorem ZDX (code:List UInt8) (hl:code.length≤1048576):ZQ Go.Proofs.Tryz.prog 21 [.d (.sl (bys code))] [] [.dead] (.d (.sl (ints (ZDP code)))) []:=by
 refine cofF Go.Proofs.Tryz.func21 hr21 hl21 ?_
 have o1:=Cur.new_ok hl
 have o2:=Cur.byte_ok o1
 simp -implicitDefEqProofs only [go_sem]
 refine Znr code hl rfl ?_
 simp -implicitDefEqProofs only [go_sem,Cur.cells]
 repeat ((first|refine ZeK (Cur.new code) o1 rfl rfl rfl rfl ?_|refine rq ?_|fail);simp -implicitDefEqProofs only [go_sem,Cur.cells])
 refine ZY (α:=Nat) (fun i=>⟨[(3,.ref 0 0),(4,.own 1 0 i),(5,.d (.int .i64 i))],[(0,some (.box (ZDN i (Cur.new code).byte.2).2.cells)),(1,some (.arr 1 (ints (ZDN i (Cur.new code).byte.2).1)))]⟩)
  (fun i=>i≤12) (fun i=>12 - i) 0 rfl (by omega) ?_
 rintro i h1
 have o3:=ZDT (k:=i) o2
 have hlen:=ZDO (k:=i) (c:=(Cur.new code).byte.2)
 simp -implicitDefEqProofs only [go_sem]
 refine fork (fun h2=>?_) (fun h2=>?_)
 ·simp -implicitDefEqProofs only [go_sem,Cur.cells]
  repeat ((first|refine Za0 (ZDN i (Cur.new code).byte.2).2 10000 o3 rfl rfl rfl rfl ?_|refine rq ?_|fail);simp -implicitDefEqProofs only [go_sem,Cur.cells])
  rw [ZV (by simp only [LEN];omega)]
  refine ZP (i+1) ?_ (by omega) (by omega)
  simp [ZDN,ints,hlen,Cur.cells]
  rw [List.take_of_length_le (by simp [hlen])]
 ·obtain rfl:i=12:=by omega
  have ht:(ints (ZDN 12 (Cur.new code).byte.2).1).take 12=ints (ZDP code):=by rw [List.take_of_length_le (by simp [ints,hlen])];rfl
  simp -implicitDefEqProofs only [go_sem,Cur.cells,ht]
def ZDW (code:List UInt8) (hl:code.length≤1048576):=kf (ZDX code hl)
end Go.Rx
namespace Go.Rx
open Go
attribute [local irreducible] Req Way WayG Sel Z2 ZQ Zaz cVC Zai ZaO
@[go_sem] def hr26:ZW:=hh [[0,1],[1,2],[5]]
@[go_sem] def hl26:ZW:=hh []
attribute [go_sem] Go.Proofs.Tryz.results26
theorem ZDy (d:ZT) (root:Int) (ps:List ZR) (hp:Zeo d root=some ps) (h1:d.Zv.length≤1048576) (h2:d.Zm.length≤1048576) (hsm:∀p,(ZU d p).length≤1048576):ZQ Go.Proofs.Tryz.prog 26 [.d (.agg d.cells),.d (.int .i64 root)] [] [.dead,.dead] (.d (.sl (Zaj ps))) []:=by
 refine cofF Go.Proofs.Tryz.func26 hr26 hl26 ?_
 have hv:ZqM (Zeo d root)= .tup [.d (.sl (Zaj ps)),.d (.bool true)]:=by rw [hp];rfl
 simp -implicitDefEqProofs only [go_sem,ZT.cells,hv]
 repeat ((first|refine rq ?_|refine wl ?_|refine gl ?_|refine ZgK d root h1 h2 hsm (by simp -implicitDefEqProofs only [go_sem,ZT.cells_eq];first|done|rfl) ?_|fail);simp -implicitDefEqProofs only [go_sem,ZT.cells,hv])
 try rfl
def ZDR (d:ZT) (root:Int) (ps:List ZR) (hp:Zeo d root=some ps) (h1:d.Zv.length≤1048576) (h2:d.Zm.length≤1048576) (hsm:∀p,(ZU d p).length≤1048576):=kf (ZDy d root ps hp h1 h2 hsm)
theorem ZDu {d:ZT} {m:ZX} {ps:List ZR} {pg:List Int} (h:ZaX d m ps pg):ZaP (pg++Z5 m.Ze)=(List.range (m.Zs - 2).toNat).map fun (i:Nat)=>(i:Int)+2:=by
 refine Zgj Zfm ?_ (Zbs.trans ((List.perm_ext_iff_of_nodup ?_ ?_).2 fun q=>?_))
 ·exact List.pairwise_lt_range.map _ fun a b h=>by omega
 ·exact List.nodup_append.2 ⟨h.tree.nodup,(List.nodup_cons.1 h.ok.2.2.2).2,fun a ha b hb e=>h.apart a ha (e▸hb)⟩
 ·exact List.pairwise_lt_range.map _ fun a b h=>by omega
 ·rw [List.mem_append,←h.part q]
  simp only [List.mem_map,List.mem_range]
  exact ⟨fun h=>⟨(q - 2).toNat,by omega,by omega⟩,fun ⟨a,h1,h2⟩=>by omega⟩
def prL (m:ZX) (pg:List Int) (i:Nat):List Int:=ZaP pg++Z5 (m.Ze.take i)
theorem ZDw {m:ZX} {pg:List Int} {i:Nat} {f:Zau} (h:m.Ze[i]? =some f):prL m pg (i+1)=prL m pg i++f.Zv:=by
 unfold prL Z5;rw [Z7 h];simp
theorem ZDv {m:ZX} {pg:List Int} {i:Nat} (h1:pg.length≤1000) (h:(Z5 m.Ze).length≤1000000):(prL m pg i).length≤1001000:=by
 have e:Z5 m.Ze=Z5 (m.Ze.take i)++Z5 (m.Ze.drop i):=by unfold Z5;rw [←List.flatMap_append,List.take_append_drop]
 rw [e,List.length_append] at h
 rw [prL,List.length_append,Zbw];omega
theorem ZDz {d:ZT} {m:ZX} {ps:List ZR} {pg:List Int} (h:ZaX d m ps pg):ZaP (prL m pg m.Ze.length)=(List.range (m.Zs - 2).toNat).map fun (i:Nat)=>(i:Int)+2:=by
 rw [←ZDu h,prL,List.take_length]
 exact Zgj Zfm Zfm (Zbs.trans (((Zbs).append_right _).trans Zbs.symm))
@[go_sem] def hr64:ZW:=hh [[0,1],[2,3],[3,5,6],[],[3,5],[3,5,7],[3,5,7],[3,5,7],[3,5],[3,5],[],[5],[5,8],[5,8],[5,8],[],[]]
@[go_sem] def hl64:ZW:=hh [[],[],[],[],[],[3,5,7],[],[],[],[],[],[],[5,8]]
attribute [go_sem] Go.Proofs.Tryz.results64
theorem ZDt {ps:List ZR} {pg:List Int} (d:ZT) (m:ZX) (hi:ZaX d m ps pg) (hf:(Z5 m.Ze).length≤1000000):ZQ Go.Proofs.Tryz.prog 64 [.d (.agg d.cells),.d (.agg m.cells)] [] [.dead,.dead] (.d (.bool true)) []:=by
 refine cof Go.Proofs.Tryz.func64 hr64 hl64 [false,false] ?_
 have hrp:=Zbk hi.disk
 have hdk:=Zb4 hi.disk
 have hpl:=hi.pages_len
 have hfl:=(ZaK hi.ok).1
 simp -implicitDefEqProofs only [go_sem,ZT.cells,ZX.cells]
 repeat ((first|refine rq ?_|refine wl ?_|refine gl ?_|refine ZB3 d m.Zy pg hi.tree hdk.1 hdk.2 hrp (by simp -implicitDefEqProofs only [go_sem,ZT.cells_eq];first|done|rfl) ?_|fail);simp -implicitDefEqProofs only [go_sem,ZT.cells,ZX.cells])
 refine ZY (α:=Nat) (fun i=>⟨[(3,.ref 0 0),(5,.own 1 0 (prL m pg i).length),(7,.d (.int .i64 i))],[(0,some (.box [.d (.int .i64 m.ZF),.d (.int .i64 m.Zy),.d (.int .i64 m.Zs),.d (.sl (Z9 m.Ze))])),(1,some (.arr 1 (ints (prL m pg i))))]⟩)
  (fun i=>i≤m.Ze.length) (fun i=>m.Ze.length - i) 0 (by simp [prL,Z5,Zbw]) (Nat.zero_le _) ?_
 rintro i i1
 have hi1:IntKind.i64.wrap ((i:Int)+1)=((i+1:Nat):Int):=ZV (by simp only [LEN];omega)
 have hri:=ZDv (m:=m) (i:=i) hpl hf
 simp -implicitDefEqProofs only [go_sem]
 refine fork (fun h5=>?_) (fun h5=>?_)
 ·obtain ⟨f,hq⟩:=Z3 h5
  have hst:=ZDw (pg:=pg) hq
  have hln:(prL m pg i).length+f.Zv.length=(prL m pg (i+1)).length:=by rw [hst,List.length_append]
  have hal:(ints (prL m pg i)).take (prL m pg i).length++ints f.Zv=ints (prL m pg (i+1)):=by rw [Zby,Zi3,hst]
  have hri2:=ZDv (m:=m) (i:=i+1) hpl hf
  simp -implicitDefEqProofs only [go_sem,Z4 hq,hal,Zi3,←hst,hln]
  repeat ((first|refine rq ?_|refine wl ?_|refine gl ?_|fail);simp -implicitDefEqProofs only [go_sem,Z4 hq,hal,Zi3,←hst,hln])
  rw [hi1]
  refine ZP (i+1) ?_ (by omega) (by omega)
  simp [hst,Zi3]
 ·obtain rfl:i=m.Ze.length:=by omega
  have hA:=ZDz hi
  have hm2:=hi.ok.1.2.1
  have hlen:(prL m pg m.Ze.length).length=(m.Zs - 2).toNat:=by rw [← @Zbw (prL m pg m.Ze.length),hA];simp
  have hw:IntKind.i64.wrap (m.Zs - 2)=m.Zs - 2:=Zad (by omega) (by omega)
  have d1:decide (((prL m pg m.Ze.length).length:Int)=m.Zs - 2)=true:=decide_eq_true (by omega)
  have hat:∀(k:Nat) (x:Int),(ZaP (prL m pg m.Ze.length))[k]? =some x→x=(k:Int)+2:=fun k x h=>by
   rw [hA,List.getElem?_map] at h
   obtain ⟨a,h1,h2⟩:=Option.map_eq_some_iff.1 h
   obtain ⟨q,e⟩:=List.getElem?_eq_some_iff.1 h1
   rw [List.getElem_range] at e
   rw [←h2,e]
  simp -implicitDefEqProofs only [go_sem,hw,d1]
  repeat ((first|refine rq ?_|refine wl ?_|refine gl ?_|refine Zhi (prL m pg m.Ze.length) (by omega) (ls:=[1]) (by simp -implicitDefEqProofs only [go_sem,Zby];first|done|rfl) ?_|fail);simp -implicitDefEqProofs only [go_sem,hw,d1])
  have hsl:= @Zbw (prL m pg m.Ze.length)
  generalize prL m pg m.Ze.length=L at*
  refine ZY (α:=Nat) (fun k=>⟨[(5,.own 0 0 L.length),(8,.d (.int .i64 k))],[(0,some (.arr 1 (ints (ZaP L))))]⟩) (fun k=>k≤L.length) (fun k=>L.length - k) 0 rfl (Nat.zero_le _) ?_
  rintro k k1
  have hk1:IntKind.i64.wrap ((k:Int)+1)=((k+1:Nat):Int):=ZV (by simp only [LEN];omega)
  have hk2:IntKind.i64.wrap ((k:Int)+2)=(k:Int)+2:=Zad (by omega) (by omega)
  simp -implicitDefEqProofs only [go_sem]
  refine fork (fun h8=>?_) (fun h8=>?_)
  ·obtain ⟨x,hx⟩:=Z3 (l:=ZaP L) (i:=k) (by omega)
   have d2:decide (x=(k:Int)+2)=true:=decide_eq_true (hat k x hx)
   simp -implicitDefEqProofs only [go_sem,ZO hx,hk2,d2]
   repeat ((first|refine rq ?_|refine wl ?_|refine gl ?_|fail);simp -implicitDefEqProofs only [go_sem,ZO hx,hk2,d2])
   rw [hk1]
   exact ZP (k+1) rfl (by omega) (by omega)
  ·simp -implicitDefEqProofs only [go_sem]
   repeat ((first|refine rq ?_|refine wl ?_|refine gl ?_|fail);simp -implicitDefEqProofs only [go_sem])
def ZDx {ps:List ZR} {pg:List Int} (d:ZT) (m:ZX) (hi:ZaX d m ps pg) (hf:(Z5 m.Ze).length≤1000000):=kf (ZDt d m hi hf)
theorem ZDS {d:ZT} {m:ZX} {ps:List ZR} {pg:List Int} (h:ZaX d m ps pg):(Z5 m.Ze).length≤1000000:=by
 have e:=congrArg List.length (ZDu h)
 have:=h.ok.1.2.1
 rw [Zbw,List.length_append,List.length_map,List.length_range] at e
 omega
end Go.Rx
namespace Go.Rx
open Go
attribute [local irreducible] Req Way WayG Sel Z2 ZQ Zaz cVC Zai ZaO
@[go_sem] def hr41:ZW:=hh [[0,1],[1,2],[5],[],[5],[5,6],[5,6],[5,6],[],[5],[5,7],[5,7],[5,7],[],[]]
@[go_sem] def hl41:ZW:=hh [[],[],[],[],[],[5,6],[],[],[],[],[5,7]]
attribute [go_sem] Go.Proofs.Tryz.results41
theorem ZD7 {ps:List ZR} {pg:List Int} (d:ZT) (root:Int) (ht:Zdp (rdW d) root ps pg) (h1:d.Zv.length≤1048576) (h2:d.Zm.length≤1048576) (hsm:∀p,(ZU d p).length≤1048576):ZQ Go.Proofs.Tryz.prog 41 [.d (.agg d.cells),.d (.int .i64 root)] [] [.dead,.dead] (.d (.bool true)) []:=by
 refine cof Go.Proofs.Tryz.func41 hr41 hl41 [false,false] ?_
 obtain ⟨n,c,hlk⟩:=ZiY ht
 have hc:=Zvt d root h1 h2 hsm
 have hlen:= @ZuH d root
 rw [hlk] at hc hlen
 simp only [List.length_replicate] at hlen
 have hasc:ascP ps:=ht.asc Zcx
 simp -implicitDefEqProofs only [go_sem,ZT.cells]
 refine ZcM (xs:=[.agg d.cells,.int .i64 root]) rfl hc rfl (.inl rfl) ?_
 simp -implicitDefEqProofs only [go_sem,ZaI]
 repeat ((first|refine rq ?_|refine wl ?_|refine gl ?_|fail);simp -implicitDefEqProofs only [go_sem,ZaI])
 refine ZY (α:=Nat) (fun i=>⟨[(5,.ref 0 0),(6,.d (.int .i64 i))],[(0,some (.box [.own 1 0 ps.length,.own 2 0 pg.length,.own 3 0 (List.replicate n c).length,.d (.bool false),.d (.bool false)])),(1,some (.arr 2 (Zaj ps))),(2,some (.arr 1 (ints pg))),(3,some (.arr 1 (ints (List.replicate n c))))]⟩)
  (fun i=>1≤i∧i≤ps.length+1) (fun i=>ps.length+1 - i) 1 rfl (by omega) ?_
 rintro i ⟨i1,i2⟩
 have hi1:IntKind.i64.wrap ((i:Int)+1)=((i+1:Nat):Int):=ZV (by simp only [LEN];omega)
 have hi2:IntKind.i64.wrap ((i:Int) - 1)=((i - 1:Nat):Int):=by rw [Zad (by omega) (by omega)];omega
 simp -implicitDefEqProofs only [go_sem]
 refine fork (fun h5=>?_) (fun h5=>?_)
 ·obtain ⟨y,hy⟩:=Z3 (l:=ps) (i:=i) (by omega)
  obtain ⟨x,hx⟩:=Z3 (l:=ps) (i:=i - 1) (by omega)
  have dlt:Zax x.Zi y.Zi=true:=by
   obtain ⟨q1,e1⟩:=List.getElem?_eq_some_iff.1 hx
   obtain ⟨q2,e2⟩:=List.getElem?_eq_some_iff.1 hy
   have:=List.pairwise_iff_getElem.1 hasc (i - 1) i q1 q2 (by omega)
   rw [e1,e2] at this
   exact this
  simp -implicitDefEqProofs only [go_sem,hi2,Zar hx,Zar hy,dlt]
  repeat ((first|refine rq ?_|refine wl ?_|refine gl ?_|fail);simp -implicitDefEqProofs only [go_sem,hi2,Zar hx,Zar hy,dlt])
  rw [hi1]
  exact ZP (i+1) rfl ⟨by omega,by omega⟩ (by omega)
 ·simp -implicitDefEqProofs only [go_sem]
  repeat ((first|refine rq ?_|refine wl ?_|refine gl ?_|fail);simp -implicitDefEqProofs only [go_sem])
  have hln:(List.replicate n c).length=n:=List.length_replicate
  have hall:∀(j:Nat) (z:Int),(List.replicate n c)[j]? =some z→z=c:=fun j z h=>by
   obtain ⟨q,e⟩:=List.getElem?_eq_some_iff.1 h
   rw [List.getElem_replicate] at e;exact e.symm
  generalize List.replicate n c=L at hln hall ⊢
  refine ZY (α:=Nat) (fun i=>⟨[(5,.ref 0 0),(7,.d (.int .i64 i))],[(0,some (.box [.own 1 0 ps.length,.own 2 0 pg.length,.own 3 0 L.length,.d (.bool false),.d (.bool false)])),(1,some (.arr 2 (Zaj ps))),(2,some (.arr 1 (ints pg))),(3,some (.arr 1 (ints L)))]⟩)
   (fun i=>1≤i∧i≤L.length+1) (fun i=>L.length+1 - i) 1 rfl (by omega) ?_
  rintro j ⟨j1,j2⟩
  have hj1:IntKind.i64.wrap ((j:Int)+1)=((j+1:Nat):Int):=ZV (by simp only [LEN];omega)
  simp -implicitDefEqProofs only [go_sem]
  refine fork (fun h8=>?_) (fun h8=>?_)
  ·obtain ⟨y,hy⟩:=Z3 (l:=L) (i:=j) (by omega)
   obtain ⟨x,hx⟩:=Z3 (l:=L) (i:=0) (by omega)
   have dxy:decide (y=x)=true:=decide_eq_true ((hall _ _ hy).trans (hall _ _ hx).symm)
   simp -implicitDefEqProofs only [go_sem,ZO hx,ZO hy,dxy]
   repeat ((first|refine rq ?_|refine wl ?_|refine gl ?_|fail);simp -implicitDefEqProofs only [go_sem,ZO hx,ZO hy,dxy])
   rw [hj1]
   exact ZP (j+1) rfl ⟨by omega,by omega⟩ (by omega)
  ·simp -implicitDefEqProofs only [go_sem]
   repeat ((first|refine rq ?_|refine wl ?_|refine gl ?_|fail);simp -implicitDefEqProofs only [go_sem])
def ZDU {ps:List ZR} {pg:List Int} (d:ZT) (root:Int) (ht:Zdp (rdW d) root ps pg) (h1:d.Zv.length≤1048576) (h2:d.Zm.length≤1048576) (hsm:∀p,(ZU d p).length≤1048576):=kf (ZD7 d root ht h1 h2 hsm)
end Go.Rx
namespace Go.Rx
open Go
attribute [local irreducible] Req Way WayG Sel Z2 ZQ Zaz cVC Zai ZaO
def lefG:Nat→Nat→Cur→List Bool→List Bool×Cur
 |0,_,c,l=>(l,(c.below 12).2)
 |f+1,i,c,l=>if (i:Int)<(c.below 12).1 then lefG f (i+1) ((c.below 12).2.once 2).2 (l++[((c.below 12).2.once 2).1]) else (l,(c.below 12).2)
def lefC (c:Cur):List Bool×Cur:=lefG 12 0 c []
theorem ZEc {i:Nat} {c:Cur} {l:List Bool} (h:(i:Int)<(c.below 12).1):lefG (12 - i) i c l=lefG (12 - (i+1)) (i+1) ((c.below 12).2.once 2).2 (l++[((c.below 12).2.once 2).1]):=by
 have hr:=(Cur.below_range (c:=c) (n:=12) (by decide)).2
 have e:12 - i=(12 - (i+1))+1:=by omega
 rw [e,lefG,if_pos h]
theorem ZD6 {i:Nat} {c:Cur} {l:List Bool} (h:¬(i:Int)<(c.below 12).1):lefG (12 - i) i c l=(l,(c.below 12).2):=by
 cases e:12 - i with
 |zero=>rfl
 |succ f=>rw [lefG,if_neg h]
theorem ZD2:∀ {f i:Nat} {c:Cur} {l:List Bool},(lefG f i c l).1.length≤l.length+f
 |0,_,_,_=>by simp [lefG]
 |f+1,i,c,l=>by
  rw [lefG];split
  ·have:=ZD2 (f:=f) (i:=i+1) (c:=((c.below 12).2.once 2).2) (l:=l++[((c.below 12).2.once 2).1])
   rw [List.length_append,List.length_singleton] at this;omega
  ·simp
@[go_sem] def hr139:ZW:=hh [[0],[0],[0,3],[0,3,4],[0,3,4],[0,3,4],[0,3]]
@[go_sem] def hl139:ZW:=hh [[],[],[],[0,3,4]]
attribute [go_sem] Go.Proofs.Tryz.results139
theorem ZD5 (c:Cur) (hc:c.ok):ZQ Go.Proofs.Tryz.prog 139 [.ref 0 0] [(0,.box c.cells)] [.ref 0 0] (.own 1 0 (lefC c).1.length) [(0,.box (lefC c).2.cells),(1,.arr 1 (bls (lefC c).1))]:=by
 refine cof Go.Proofs.Tryz.func139 hr139 hl139 [true] ?_
 simp -implicitDefEqProofs only [go_sem,Cur.cells]
 repeat ((first|refine rq ?_|fail);simp -implicitDefEqProofs only [go_sem,Cur.cells])
 refine ZY (α:=Nat×Cur×List Bool) (fun x=>⟨[(0,.ref 0 0),(3,.own 1 0 x.2.2.length),(4,.d (.int .i64 x.1))],[(0,some (.box x.2.1.cells)),(1,some (.arr 1 (bls x.2.2)))]⟩)
  (fun x=>x.1≤12∧x.2.2.length≤x.1∧x.2.1.ok∧lefG (12 - x.1) x.1 x.2.1 x.2.2=lefC c) (fun x=>12 - x.1) (0,c,[]) rfl ⟨Nat.zero_le _,by simp,hc,rfl⟩ ?_
 rintro ⟨i,d,l⟩ ⟨h1,h2,h3,h4⟩
 simp only at h1 h2 h3 h4
 simp -implicitDefEqProofs only [go_sem,Cur.cells]
 refine Za0 d _ h3 rfl rfl rfl rfl ?_
 simp -implicitDefEqProofs only [go_sem,Cur.cells]
 have hr:=Cur.below_range (c:=d) (n:=12) (by decide)
 refine Zfi (fun h5=>?_) (fun h5=>?_)
 ·have o1:=Cur.below_ok (n:=12) h3
  have o2:=Cur.once_ok (n:=2) o1
  have hal:(bls l).take l.length++bls [((d.below 12).2.once 2).1]=bls (l++[((d.below 12).2.once 2).1]):=by rw [List.take_of_length_le (by simp [bls])];simp [bls]
  simp -implicitDefEqProofs only [go_sem,Cur.cells]
  repeat ((first|refine rq ?_|refine wl ?_|refine gl ?_|refine Zbu (d.below 12).2 2 o1 rfl rfl rfl rfl ?_|fail);simp -implicitDefEqProofs only [go_sem,Cur.cells])
  rw [ZV (by simp only [LEN];omega)]
  refine ZP (i+1,((d.below 12).2.once 2).2,l++[((d.below 12).2.once 2).1]) ?_ ⟨?_,?_,o2,?_⟩ ?_
  ·simp [bls]
  ·simp only;omega
  ·simp only [List.length_append,List.length_singleton];omega
  ·simp only;rw [←ZEc h5];exact h4
  ·simp only;omega
 ·simp -implicitDefEqProofs only [go_sem,Cur.cells]
  rw [ZD6 h5] at h4
  rw [←h4]
theorem ZD4 {h:Heap} {tb:Nat} {K:OK} {k:Nat} (c:Cur) (hc:c.ok) (hh:h k=some (.box c.cells)) (hro:refO h k=[k])
  (hk:K (.own (tb+1) 0 (lefC c).1.length) [(k,none),(k,some (.box (lefC c).2.cells)),(tb+1,some (.arr 1 (bls (lefC c).1)))]):Z2 Go.Proofs.Tryz.prog h tb 139 [.ref k 0] K:=
 Zbz false hh hro rfl ZD9 rfl (ZD5 c hc) rfl rfl (.inr (.inl rfl)) hk
@[go_sem] def hr65:ZW:=hh [[0],[0]]
@[go_sem] def hl65:ZW:=hh []
attribute [go_sem] Go.Proofs.Tryz.results65
theorem ZD1 (code:List UInt8) (hl:code.length≤1048576):ZQ Go.Proofs.Tryz.prog 65 [.d (.sl (bys code))] [] [.dead] (.d (.sl (bls (lefC (Cur.new code)).1))) []:=by
 refine cofF Go.Proofs.Tryz.func65 hr65 hl65 ?_
 have o1:=Cur.new_ok hl
 simp -implicitDefEqProofs only [go_sem]
 refine Znr code hl rfl ?_
 simp -implicitDefEqProofs only [go_sem,Cur.cells]
 repeat ((first|refine ZD4 (Cur.new code) o1 rfl rfl ?_|fail);simp -implicitDefEqProofs only [go_sem,Cur.cells])
 try rfl
def ZD0 (code:List UInt8) (hl:code.length≤1048576):=kf (ZD1 code hl)
end Go.Rx
namespace Go.Rx
open Go
attribute [local irreducible] Req Way WayG Sel Z2 ZQ Zaz cVC Zai ZaO
theorem ZDZ {d0:ZT} {m:ZX} {oldest:Int} {pg0 pg:List Int} {ps0 ps:List ZR} {t:GTxn} (hD:ZaX d0 m ps0 pg0) (h:ZcB d0 m oldest pg0 t ps pg):Zdp (rdW (Za6 t.ZK.Zc)) t.Za.Zy ps0 pg0:=by
 rw [Zwy,h.base]
 exact hD.tree.frame fun q hq=>by unfold rdW;rw [h.text hD.late (ZcG hD (Int.le_refl _) (.inl hq))]
theorem ZEb {d0:ZT} {m:ZX} {oldest torn:Int} {left:List Bool} {pg0 pg:List Int} {ps0 ps:List ZR} {t:GTxn} (hD:ZaX d0 m ps0 pg0) (h:ZcB d0 m oldest pg0 t ps pg):ZaX (cutD t 0 left torn) m ps0 pg0:=by
 have hok:=h.txs.ok
 unfold cutD
 rw [if_pos (.inr (.inr rfl))]
 refine hD.frame (Zi5 hok.disk) (ZcA hok.disk) (by rw [ZcK,h.pages]) fun q hq=>?_
 have hno:¬Zef m oldest q:=by
  rcases hq with hq|hq
  ·exact ZcG hD (Int.le_refl _) (.inl hq)
  ·intro ho;have:=Zmc hD ho;omega
 have hk:∀x∈t.ZK.Zc.Zm,x.Zu≠q:=fun x hx e=>hno (by rw [←e];exact hok.late x hx)
 rw [Zh1 hok.disk hk,ZhP h.pages,ZeZ hD.late]
theorem ZEa {d0:ZT} {m:ZX} {oldest torn:Int} {left:List Bool} {pg0 pg:List Int} {ps0 ps:List ZR} {t:GTxn} (hD:ZaX d0 m ps0 pg0) (h:ZcB d0 m oldest pg0 t ps pg) (i:Nat):
  ∃m' psx pgx,ZaX (cutD t i left torn) m' psx pgx∧(psx=ps0∨(psx≠ps0∧i≠0∧psx=ps)):=by
 by_cases h0:i=0
 ·subst h0;exact ⟨m,ps0,pg0,ZEb hD h,.inl rfl⟩
 ·rcases (Zvs (stage:=i) (torn:=torn) (left:=left) hD h).2 with h1|⟨_,_,h1⟩
  ·exact ⟨_,_,_,h1,.inl rfl⟩
  ·by_cases e:ps=ps0
   ·exact ⟨_,_,_,h1,.inl e⟩
   ·exact ⟨_,_,_,h1,.inr ⟨e,h0,rfl⟩⟩
theorem ZDV {d:ZT} {root:Int} {ps:List ZR} {pg:List Int} (h:Zdp (rdW d) root ps pg):ps.length≤131072:=by
 obtain ⟨m,c,e⟩:=ZiY h
 have:=(@ZuH d root).2.1
 rw [e] at this;exact this
@[go_sem] def hr13:ZW:=hh [[0],[0],[],[0],[0,3],[0,3,4],[3,4,5],[3,4,5,6],[3,4,5,6,7],[3,4,5,6,7,8],[3,4,5,6,7,8],[3,4,5,6,7,8],[3,4,5,6,7,8,9],[],[3,4,5,6,7,8,9],[3,4,5,6,7,8,9,10,11],[],[3,4,5,6,7,8,9,10],[3,4,5,6,7,8,12],[],[3,6,7]]
@[go_sem] def hl13:ZW:=hh [[],[],[],[],[],[],[],[],[],[3,4,5,6,7,8]]
attribute [go_sem] Go.Proofs.Tryz.results13
theorem ZD8 (code:List UInt8) (hl:code.length≤1048576):ZQ Go.Proofs.Tryz.prog 13 [.d (.sl (bys code))] [] [.dead] (.d (.bool true)) []:=by
 refine cof Go.Proofs.Tryz.func13 hr13 hl13 [false] ?_
 obtain ⟨s,ps0,pg0,next,view,ps,pg,hi,_,hx⟩:=ZDF (c:=Cur.new code)
 have hbig:decide ((1048576:Int)<(code.length:Int))=false:=decide_eq_false (by omega)
 have hD:=hi.disk
 obtain ⟨b1,b3,b4⟩:=ZkQ hD hx
 have hsm:=hx.txs.ok.smallW hD.pages_len
 have hdd:Za5 (txnD (Cur.new code)).1.ZK.Zc:=hx.txs.ok.disk
 have hLl:(lefC (Cur.new code)).1.length≤1048576:=by have:=ZD2 (f:=12) (i:=0) (c:=Cur.new code) (l:=[]);unfold lefC;simp only [List.length_nil] at this;omega
 have hPl:(ZDP code).length=12:=ZDO
 obtain ⟨x,hP⟩:=Z3 (l:=ZDP code) (i:=0) (by omega)
 have hxr:=ZDY x (List.mem_of_getElem? hP)
 simp -implicitDefEqProofs only [go_sem]
 refine kl_big code rfl ?_
 simp -implicitDefEqProofs only [go_sem,hbig,GTxn.cells]
 repeat ((first|refine rq ?_|refine wl ?_|refine gl ?_|refine ks_DrawTxn code hl rfl ?_|fail);simp -implicitDefEqProofs only [go_sem,hbig,GTxn.cells])
 generalize (txnD (Cur.new code)).1=t at hx b1 b3 b4 hsm hdd ⊢
 have hw:=hsm.1
 have hsd:=Zb4 (Zg0 hdd)
 have hrp:=Zbk (Zg0 hdd)
 have hrp2:=Zbk hdd
 have hp1:=ZgV (ZDZ hD hx)
 have hp2:=ZgV hx.txs.tree
 have hl1:=ZDV (ZDZ hD hx)
 have hl2:=ZDV hx.txs.tree
 simp -implicitDefEqProofs only [go_sem,GTxn.cells,ZT.cells]
 repeat ((first|refine rq ?_|refine wl ?_|refine gl ?_|refine ZD0 code hl rfl ?_|refine ZDW code hl rfl ?_|refine Zc4 t.ZK.Zc hw (by simp -implicitDefEqProofs only [go_sem,ZT.cells_eq];first|done|rfl) ?_|refine ZDR (Za6 t.ZK.Zc) t.Za.Zy ps0 hp1 hsd.1 hsd.2 hrp (by simp -implicitDefEqProofs only [go_sem,ZT.cells_eq];first|done|rfl) ?_|refine ZDR t.ZK.Zc t.Zy ps hp2 hw.1 hw.2 hrp2 (by simp -implicitDefEqProofs only [go_sem,ZT.cells_eq];first|done|rfl) ?_|fail);simp -implicitDefEqProofs only [go_sem,GTxn.cells,ZT.cells])
 have hcv:∀i:Nat,∃m' psx pgx,ZaX (cutD t i (lefC (Cur.new code)).1 (x.tmod 6 - 1)) m' psx pgx∧(psx=ps0∨(psx≠ps0∧i≠0∧psx=ps)):=fun i=>ZEa hD hx i
 have hbm:=ZaK b1
 generalize (lefC (Cur.new code)).1=L at hLl hcv ⊢
 generalize ZDP code=P at hP hPl hxr ⊢
 refine ZY (α:=Nat) (fun i=>⟨[(3,.ref 0 0),(4,.d (.sl (bls L))),(5,.d (.sl (ints P))),(6,.d (.sl (Zaj ps0))),(7,.d (.sl (Zaj ps))),(8,.d (.int .i64 i))],[(0,some (.box [.d (.int .i64 t.Za.ZF),.d (.int .i64 t.Za.Zy),.d (.int .i64 t.Za.Zs),.d (.sl (Z9 t.Za.Ze)),.d (.sl (strs t.ZK.Zc.Zv)),.d (.sl (Zae t.ZK.Zc.Zm)),.d (.int .i64 t.ZK.Zs),.d (.sl (ints t.ZK.ZH)),.d (.sl (ints t.ZK.Zg)),.d (.sl (ints t.ZK.Zf)),.d (.int .i64 t.Zy)]))]⟩)
  (fun i=>i≤2) (fun i=>2 - i) 0 rfl (by omega) ?_
 rintro i i1
 have hi1:IntKind.i64.wrap ((i:Int)+1)=((i+1:Nat):Int):=ZV (by simp only [LEN];omega)
 have htm:0≤x.tmod 6∧x.tmod 6<6:=⟨Int.tmod_nonneg _ hxr.1,Int.tmod_lt_of_pos _ (by decide)⟩
 have ht1:IntKind.i64.wrap (x.tmod 6)=x.tmod 6:=Zad (by omega) (by omega)
 have ht2:IntKind.i64.wrap (x.tmod 6 - 1)=x.tmod 6 - 1:=Zad (by omega) (by omega)
 simp -implicitDefEqProofs only [go_sem]
 refine fork (fun h5=>?_) (fun h5=>?_)
 ·obtain ⟨m',psx,pgx,hI,hor⟩:=hcv i
  simp -implicitDefEqProofs only [go_sem,ZO hP,ht1,ht2,GTxn.cells,ZT.cells]
  repeat ((first|refine rq ?_|refine wl ?_|refine gl ?_|refine ZDh t i L (x.tmod 6 - 1) b1 hsm b3 b4 hdd hLl (by simp -implicitDefEqProofs only [go_sem,GTxn.cells_eq];first|done|rfl) ?_|refine Zny t i L (x.tmod 6 - 1) b1 hsm b3 b4 hdd hLl (by simp -implicitDefEqProofs only [go_sem,GTxn.cells_eq];first|done|rfl) ?_|fail);simp -implicitDefEqProofs only [go_sem,ZO hP,ht1,ht2,GTxn.cells,ZT.cells])
  generalize cutD t i L (x.tmod 6 - 1)=d' at hI ⊢
  have hd:=Zb4 hI.disk
  have hrd:=Zbk hI.disk
  have hpd:=ZgV hI.tree
  have hbe:Zhd (Zf7 d')= .tup [.d (.agg m'.cells),.d (.bool true)]:=by rw [Zon hI];rfl
  have hs2:psx.length≤LEN:=by have:=ZDV hI.tree;simp only [LEN];omega
  simp -implicitDefEqProofs only [go_sem,hbe,ZT.cells,ZX.cells]
  repeat ((first|refine rq ?_|refine wl ?_|refine gl ?_|refine ZBp d' (by have:=hd.1;simp only [LEN];omega) (by have:=hd.2;simp only [LEN];omega) (by simp -implicitDefEqProofs only [go_sem,ZT.cells_eq];first|done|rfl) ?_|refine Zo9 d' hd.1 hd.2 hrd (by simp -implicitDefEqProofs only [go_sem,ZT.cells_eq];first|done|rfl) ?_|refine ZDU d' m'.Zy hI.tree hd.1 hd.2 hrd (by simp -implicitDefEqProofs only [go_sem,ZT.cells_eq];first|done|rfl) ?_|refine ZDx d' m' hI (ZDS hI) (by simp -implicitDefEqProofs only [go_sem,ZT.cells_eq,ZX.cells_eq];first|done|rfl) ?_|refine ZDR d' m'.Zy psx hpd hd.1 hd.2 hrd (by simp -implicitDefEqProofs only [go_sem,ZT.cells_eq];first|done|rfl) ?_|fail);simp -implicitDefEqProofs only [go_sem,hbe,ZT.cells,ZX.cells])
  refine ZBz psx ps0 hs2 (by simp -implicitDefEqProofs only [go_sem];first|done|rfl) ?_
  rcases hor with rfl|⟨hne,h0,rfl⟩
  ·by_cases h0:i=0
   ·have d0:decide ((i:Int)=0)=true:=decide_eq_true (by omega)
    simp -implicitDefEqProofs only [go_sem,deq,d0]
    repeat ((first|refine rq ?_|refine wl ?_|refine gl ?_|refine ZBz psx psx hs2 (by simp -implicitDefEqProofs only [go_sem];first|done|rfl) ?_|fail);simp -implicitDefEqProofs only [go_sem,deq,d0])
    rw [hi1]
    exact ZP (i+1) rfl (by omega) (by omega)
   ·have d0:decide ((i:Int)=0)=false:=decide_eq_false (by omega)
    simp -implicitDefEqProofs only [go_sem,deq,d0]
    repeat ((first|refine rq ?_|refine wl ?_|refine gl ?_|fail);simp -implicitDefEqProofs only [go_sem,deq,d0])
    rw [hi1]
    exact ZP (i+1) rfl (by omega) (by omega)
  ·have d0:decide ((i:Int)=0)=false:=decide_eq_false (by omega)
   have dp1:decide (psx=ps0)=false:=decide_eq_false hne
   simp -implicitDefEqProofs only [go_sem,deq,dp1,d0]
   repeat ((first|refine rq ?_|refine wl ?_|refine gl ?_|refine ZBz psx psx hs2 (by simp -implicitDefEqProofs only [go_sem];first|done|rfl) ?_|fail);simp -implicitDefEqProofs only [go_sem,deq,dp1,d0])
   rw [hi1]
   exact ZP (i+1) rfl (by omega) (by omega)
 ·have dM:decide (Za8 t.Za)=true:=decide_eq_true b1
  have dl:decide ((0:Int)≤IntKind.i64.wrap ((ps0.length:Int)+(ps.length:Int)))=true:=by
   rw [Zad (by omega) (by omega)];exact decide_eq_true (by omega)
  simp -implicitDefEqProofs only [go_sem,dM,dl,ZX.cells]
  repeat ((first|refine rq ?_|refine wl ?_|refine gl ?_|refine Znw t.Za hbm (by simp -implicitDefEqProofs only [go_sem,ZX.cells_eq];first|done|rfl) ?_|fail);simp -implicitDefEqProofs only [go_sem,dM,dl,ZX.cells])
  done
theorem ZD3 (code:List UInt8) (hl:code.length≤LEN) (hb:¬code.length≤1048576):ZQ Go.Proofs.Tryz.prog 13 [.d (.sl (bys code))] [] [.dead] (.d (.bool true)) []:=by
 refine cof Go.Proofs.Tryz.func13 hr13 hl13 [false] ?_
 have hbig:decide ((1048576:Int)<(code.length:Int))=true:=decide_eq_true (by omega)
 simp -implicitDefEqProofs only [go_sem]
 refine kl_big code rfl ?_
 simp -implicitDefEqProofs only [go_sem,hbig]
 repeat ((first|refine rq ?_|refine wl ?_|refine gl ?_|fail);simp -implicitDefEqProofs only [go_sem,hbig])
theorem cl_CutsA (code:List UInt8) (h:code.length≤LEN∧∀x∈code,True):ZQ Go.Proofs.Tryz.prog 13 [.d (.sl (bys code))] [] [.dead] (.d (.bool true)) []:=
 if hl:code.length≤1048576 then ZD8 code hl else ZD3 code h.1 hl
end Go.Rx
