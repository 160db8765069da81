/-
  Part N17: lemmas on an evaluator over plain data of the model's code, plain laws on lists and numbers, or contracts of functions of the program; each lemma names its conditions.
-/
import Derived.Test.YtmeinhaecplpkaaGreatSA1
import Derived.Test.YtmeinhaecplpkaaGreatSA4
import Derived.Test.YtmeinhaecplpkaaGreatSB1
import Derived.Test.YtmeinhaecplpkaaGreatSE1
import Derived.Test.YtmeinhaecplpkaaGreatSE2
import Derived.Test.YtmeinhaecplpkaaGreatSE4
import Derived.Test.YtmeinhaecplpkaaGreatSE5
import Derived.Test.YtmeinhaecplpkaaGreatSE6
import Derived.Test.YtmeinhaecplpkaaGreatSN1
import Derived.Test.YtmeinhaecplpkaaGreatSN9
import Derived.Test.YtmeinhaecplpkaaGreatSP1
import Derived.Test.YtmeinhaecplpkaaGreatSP2
import Derived.Test.YtmeinhaecplpkaaGreatSP3
import Derived.Test.YtmeinhaecplpkaaGreatSP4
import Derived.Test.YtmeinhaecplpkaaGreatSP5
import Derived.Test.YtmeinhaecplpkaaGreatSR0

set_option linter.unusedSimpArgs false
set_option linter.unusedVariables false
set_option maxRecDepth 100000
set_option maxHeartbeats 16000000
set_option linter.defProp false
namespace Go.Rx
open Go
attribute [local irreducible] Req Way WayG Sel Z2 ZQ Zaz cVC Zai ZaO
@[go_sem] def hr26:ZW:=hh [[0,1],[1,2],[5]]
@[go_sem] def hl26:ZW:=hh []
attribute [go_sem] Go.Proofs.Tryz.results26
theorem ZDy (d:ZT) (root:Int) (ps:List ZR) (hp:Zeo d root=some ps) (h1:d.Zv.length≤1048576) (h2:d.Zm.length≤1048576) (hsm:∀p,(ZU d p).length≤1048576):ZQ Go.Proofs.Tryz.prog 26 [.d (.agg d.cells),.d (.int .i64 root)] [] [.dead,.dead] (.d (.sl (Zaj ps))) []:=by
 refine cofF Go.Proofs.Tryz.func26 hr26 hl26 ?_
 have hv:ZqM (Zeo d root)= .tup [.d (.sl (Zaj ps)),.d (.bool true)]:=by rw [hp];rfl
 simp -implicitDefEqProofs only [go_sem,ZT.cells,hv]
 repeat ((first|refine rq ?_|refine wl ?_|refine gl ?_|refine ZgK d root h1 h2 hsm (by simp -implicitDefEqProofs only [go_sem,ZT.cells_eq];first|done|rfl) ?_|fail);simp -implicitDefEqProofs only [go_sem,ZT.cells,hv])
 try rfl
def kl_pairs (d:ZT) (root:Int) (ps:List ZR) (hp:Zeo d root=some ps) (h1:d.Zv.length≤1048576) (h2:d.Zm.length≤1048576) (hsm:∀p,(ZU d p).length≤1048576):=kf (ZDy d root ps hp h1 h2 hsm)
theorem ZDu {d:ZT} {m:ZX} {ps:List ZR} {pg:List Int} (h:ZaX d m ps pg):ZaP (pg++Z5 m.Ze)=(List.range (m.Zs - 2).toNat).map fun (i:Nat)=>(i:Int)+2:=by
 refine Zgj Zfm ?_ (Zbs.trans ((List.perm_ext_iff_of_nodup ?_ ?_).2 fun q=>?_))
 ·exact List.pairwise_lt_range.map _ fun a b h=>by omega
 ·exact List.nodup_append.2 ⟨h.tree.nodup,(List.nodup_cons.1 h.ok.2.2.2).2,fun a ha b hb e=>h.apart a ha (e▸hb)⟩
 ·exact List.pairwise_lt_range.map _ fun a b h=>by omega
 ·rw [List.mem_append,←h.part q]
  simp only [List.mem_map,List.mem_range]
  exact ⟨fun h=>⟨(q - 2).toNat,by omega,by omega⟩,fun ⟨a,h1,h2⟩=>by omega⟩
def prL (m:ZX) (pg:List Int) (i:Nat):List Int:=ZaP pg++Z5 (m.Ze.take i)
theorem ZDw {m:ZX} {pg:List Int} {i:Nat} {f:Zau} (h:m.Ze[i]? =some f):prL m pg (i+1)=prL m pg i++f.Zv:=by
 unfold prL Z5;rw [Z7 h];simp
theorem ZDv {m:ZX} {pg:List Int} {i:Nat} (h1:pg.length≤1000) (h:(Z5 m.Ze).length≤1000000):(prL m pg i).length≤1001000:=by
 have e:Z5 m.Ze=Z5 (m.Ze.take i)++Z5 (m.Ze.drop i):=by unfold Z5;rw [←List.flatMap_append,List.take_append_drop]
 rw [e,List.length_append] at h
 rw [prL,List.length_append,Zbw];omega
theorem ZDz {d:ZT} {m:ZX} {ps:List ZR} {pg:List Int} (h:ZaX d m ps pg):ZaP (prL m pg m.Ze.length)=(List.range (m.Zs - 2).toNat).map fun (i:Nat)=>(i:Int)+2:=by
 rw [←ZDu h,prL,List.take_length]
 exact Zgj Zfm Zfm (Zbs.trans (((Zbs).append_right _).trans Zbs.symm))
@[go_sem] def hr64:ZW:=hh [[0,1],[2,3],[3,5,6],[],[3,5],[3,5,7],[3,5,7],[3,5,7],[3,5],[3,5],[],[5],[5,8],[5,8],[5,8],[],[]]
@[go_sem] def hl64:ZW:=hh [[],[],[],[],[],[3,5,7],[],[],[],[],[],[],[5,8]]
attribute [go_sem] Go.Proofs.Tryz.results64
theorem ZDt {ps:List ZR} {pg:List Int} (d:ZT) (m:ZX) (hi:ZaX d m ps pg) (hf:(Z5 m.Ze).length≤1000000):ZQ Go.Proofs.Tryz.prog 64 [.d (.agg d.cells),.d (.agg m.cells)] [] [.dead,.dead] (.d (.bool true)) []:=by
 refine cof Go.Proofs.Tryz.func64 hr64 hl64 [false,false] ?_
 have hrp:=Zbk hi.disk
 have hdk:=Zb4 hi.disk
 have hpl:=hi.pages_len
 have hfl:=(ZaK hi.ok).1
 simp -implicitDefEqProofs only [go_sem,ZT.cells,ZX.cells]
 repeat ((first|refine rq ?_|refine wl ?_|refine gl ?_|refine ZB3 d m.Zy pg hi.tree hdk.1 hdk.2 hrp (by simp -implicitDefEqProofs only [go_sem,ZT.cells_eq];first|done|rfl) ?_|fail);simp -implicitDefEqProofs only [go_sem,ZT.cells,ZX.cells])
 refine ZY (α:=Nat) (fun i=>⟨[(3,.ref 0 0),(5,.own 1 0 (prL m pg i).length),(7,.d (.int .i64 i))],[(0,some (.box [.d (.int .i64 m.ZF),.d (.int .i64 m.Zy),.d (.int .i64 m.Zs),.d (.sl (Z9 m.Ze))])),(1,some (.arr 1 (ints (prL m pg i))))]⟩)
  (fun i=>i≤m.Ze.length) (fun i=>m.Ze.length - i) 0 (by simp [prL,Z5,Zbw]) (Nat.zero_le _) ?_
 rintro i i1
 have hi1:IntKind.i64.wrap ((i:Int)+1)=((i+1:Nat):Int):=ZV (by simp only [LEN];omega)
 have hri:=ZDv (m:=m) (i:=i) hpl hf
 simp -implicitDefEqProofs only [go_sem]
 refine fork (fun h5=>?_) (fun h5=>?_)
 ·obtain ⟨f,hq⟩:=Z3 h5
  have hst:=ZDw (pg:=pg) hq
  have hln:(prL m pg i).length+f.Zv.length=(prL m pg (i+1)).length:=by rw [hst,List.length_append]
  have hal:(ints (prL m pg i)).take (prL m pg i).length++ints f.Zv=ints (prL m pg (i+1)):=by rw [Zby,Zi3,hst]
  have hri2:=ZDv (m:=m) (i:=i+1) hpl hf
  simp -implicitDefEqProofs only [go_sem,Z4 hq,hal,Zi3,←hst,hln]
  repeat ((first|refine rq ?_|refine wl ?_|refine gl ?_|fail);simp -implicitDefEqProofs only [go_sem,Z4 hq,hal,Zi3,←hst,hln])
  rw [hi1]
  refine ZP (i+1) ?_ (by omega) (by omega)
  simp [hst,Zi3]
 ·obtain rfl:i=m.Ze.length:=by omega
  have hA:=ZDz hi
  have hm2:=hi.ok.1.2.1
  have hlen:(prL m pg m.Ze.length).length=(m.Zs - 2).toNat:=by rw [← @Zbw (prL m pg m.Ze.length),hA];simp
  have hw:IntKind.i64.wrap (m.Zs - 2)=m.Zs - 2:=Zad (by omega) (by omega)
  have d1:decide (((prL m pg m.Ze.length).length:Int)=m.Zs - 2)=true:=decide_eq_true (by omega)
  have hat:∀(k:Nat) (x:Int),(ZaP (prL m pg m.Ze.length))[k]? =some x→x=(k:Int)+2:=fun k x h=>by
   rw [hA,List.getElem?_map] at h
   obtain ⟨a,h1,h2⟩:=Option.map_eq_some_iff.1 h
   obtain ⟨q,e⟩:=List.getElem?_eq_some_iff.1 h1
   rw [List.getElem_range] at e
   rw [←h2,e]
  simp -implicitDefEqProofs only [go_sem,hw,d1]
  repeat ((first|refine rq ?_|refine wl ?_|refine gl ?_|refine Zhi (prL m pg m.Ze.length) (by omega) (ls:=[1]) (by simp -implicitDefEqProofs only [go_sem,Zby];first|done|rfl) ?_|fail);simp -implicitDefEqProofs only [go_sem,hw,d1])
  have hsl:= @Zbw (prL m pg m.Ze.length)
  generalize prL m pg m.Ze.length=L at*
  refine ZY (α:=Nat) (fun k=>⟨[(5,.own 0 0 L.length),(8,.d (.int .i64 k))],[(0,some (.arr 1 (ints (ZaP L))))]⟩) (fun k=>k≤L.length) (fun k=>L.length - k) 0 rfl (Nat.zero_le _) ?_
  rintro k k1
  have hk1:IntKind.i64.wrap ((k:Int)+1)=((k+1:Nat):Int):=ZV (by simp only [LEN];omega)
  have hk2:IntKind.i64.wrap ((k:Int)+2)=(k:Int)+2:=Zad (by omega) (by omega)
  simp -implicitDefEqProofs only [go_sem]
  refine fork (fun h8=>?_) (fun h8=>?_)
  ·obtain ⟨x,hx⟩:=Z3 (l:=ZaP L) (i:=k) (by omega)
   have d2:decide (x=(k:Int)+2)=true:=decide_eq_true (hat k x hx)
   simp -implicitDefEqProofs only [go_sem,ZO hx,hk2,d2]
   repeat ((first|refine rq ?_|refine wl ?_|refine gl ?_|fail);simp -implicitDefEqProofs only [go_sem,ZO hx,hk2,d2])
   rw [hk1]
   exact ZP (k+1) rfl (by omega) (by omega)
  ·simp -implicitDefEqProofs only [go_sem]
   repeat ((first|refine rq ?_|refine wl ?_|refine gl ?_|fail);simp -implicitDefEqProofs only [go_sem])
def ZDx {ps:List ZR} {pg:List Int} (d:ZT) (m:ZX) (hi:ZaX d m ps pg) (hf:(Z5 m.Ze).length≤1000000):=kf (ZDt d m hi hf)
theorem free_small {d:ZT} {m:ZX} {ps:List ZR} {pg:List Int} (h:ZaX d m ps pg):(Z5 m.Ze).length≤1000000:=by
 have e:=congrArg List.length (ZDu h)
 have:=h.ok.1.2.1
 rw [Zbw,List.length_append,List.length_map,List.length_range] at e
 omega
end Go.Rx
