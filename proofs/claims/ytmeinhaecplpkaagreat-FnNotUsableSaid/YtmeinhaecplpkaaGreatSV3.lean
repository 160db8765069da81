/-
  Part V3: lemmas on an evaluator over plain data of the model's code, plain laws on lists and numbers, or contracts of functions of the program; each lemma names its conditions.
-/
import Derived.Test.YtmeinhaecplpkaaGreatSA1
import Derived.Test.YtmeinhaecplpkaaGreatSA8
import Derived.Test.YtmeinhaecplpkaaGreatSC4
import Derived.Test.YtmeinhaecplpkaaGreatSD1
import Derived.Test.YtmeinhaecplpkaaGreatSD6
import Derived.Test.YtmeinhaecplpkaaGreatSE1
import Derived.Test.YtmeinhaecplpkaaGreatSE2
import Derived.Test.YtmeinhaecplpkaaGreatSE4
import Derived.Test.YtmeinhaecplpkaaGreatSE6
import Derived.Test.YtmeinhaecplpkaaGreatSG3
import Derived.Test.YtmeinhaecplpkaaGreatSN1
import Derived.Test.YtmeinhaecplpkaaGreatSN7
import Derived.Test.YtmeinhaecplpkaaGreatSN9
import Derived.Test.YtmeinhaecplpkaaGreatSP1
import Derived.Test.YtmeinhaecplpkaaGreatSP2
import Derived.Test.YtmeinhaecplpkaaGreatSP3
import Derived.Test.YtmeinhaecplpkaaGreatSP4
import Derived.Test.YtmeinhaecplpkaaGreatSP5
import Derived.Test.YtmeinhaecplpkaaGreatSR0

set_option linter.unusedSimpArgs false
set_option linter.unusedVariables false
set_option maxRecDepth 100000
set_option maxHeartbeats 16000000
set_option linter.defProp false
namespace Go.Rx
open Go
attribute [local irreducible] Req Way WayG Sel Z2 ZQ Zaz cVC Zai ZaO
def rdP (s:ZN) (pg:List Int) (i:Nat):List Int:=ZaP pg++(s.Zx.take i).flatMap fun r=>ZaP (Zc1 s.Zc r.Zp.Zy).pages
theorem ZB7 {s:ZN} {pg:List Int} {i:Nat} {r:Zaf} (h:s.Zx[i]? =some r):rdP s pg (i+1)=rdP s pg i++ZaP (Zc1 s.Zc r.Zp.Zy).pages:=by
 unfold rdP;rw [Z7 h];simp
theorem ZB8 {s:ZN} {pg:List Int} (hp:pg.length≤131072):∀ {i:Nat},(rdP s pg i).length≤131072+131072*i
 |0=>by simp [rdP,Zbw];omega
 |i+1=>by
  have ih:=ZB8 (s:=s) hp (i:=i)
  cases h:s.Zx[i]? with
  |none=>
   have:s.Zx.take (i+1)=s.Zx.take i:=by rw [List.take_of_length_le (by have:=List.getElem?_eq_none_iff.1 h;omega),List.take_of_length_le (by have:=List.getElem?_eq_none_iff.1 h;omega)]
   have e:rdP s pg (i+1)=rdP s pg i:=by unfold rdP;rw [this]
   rw [e];omega
  |some r=>
   have:=(@ZuH s.Zc r.Zp.Zy).1
   rw [ZB7 h,List.length_append,Zbw];omega
theorem ZB6 {s:ZN} {pg:List Int} (hp:pg.length≤131072) {i:Nat} (hi:i≤3):(rdP s pg i).length≤1000000:=by
 have:=ZB8 (s:=s) hp (i:=i);omega
theorem ZCc {s:ZN} {ps:List ZR} {pg:List Int} {next:List ZR} {view:Int→List ZR} (h:Zap s ps pg next view) {i:Nat} {x:Int} (hx:x∈rdP s pg i):¬Zef s.Zp (Zco s) x:=by
 unfold rdP at hx
 rcases List.mem_append.1 hx with hx|hx
 ·exact ZcG h.disk (x:=s.Zp.ZF) ZgB.1 (.inl (Zbs.mem_iff.1 hx))
 ·obtain ⟨r,hr,hx⟩:=List.mem_flatMap.1 hx
  have hr:=List.mem_of_mem_take hr
  obtain ⟨_,pgr,ht,hq⟩:=h.rds r hr
  obtain ⟨k,c,hlk⟩:=ZiY ht
  rw [hlk] at hx
  exact ZcG h.disk (ZgB.2 r hr) (hq x (Zbs.mem_iff.1 hx))
@[go_sem] def hr10:ZW:=hh [[0],[0],[],[0],[3],[3,4],[3,4,5,6],[3,4,5,6,7],[3,4,5,6,7],[3,4,5,6,7],[3,4,5,6,7,8,9],[3,4,5,6,7,9],[3,4,5,6],[3,4,5,6,10],[3,4,5,6,10],[3,4,5,6,10],[],[3,4,6],[3,4,6,11]]
@[go_sem] def hl10:ZW:=hh [[],[],[],[],[],[],[],[3,4,5,6,7],[],[],[],[],[],[3,4,5,6,10]]
attribute [go_sem] Go.Proofs.Tryz.results10
theorem ZB5 (code:List UInt8) (hl:code.length≤1048576):ZQ Go.Proofs.Tryz.prog 10 [.d (.sl (bys code))] [] [.dead] (.d (.bool true)) []:=by
 refine cof Go.Proofs.Tryz.func10 hr10 hl10 [false] ?_
 obtain ⟨pg,view,hW⟩:=ZrH (c:=Cur.new code)
 have hi:=hW.store
 have hS:(Zbr (Cur.new code)).1.ZB=ZtY code:=rfl
 rw [hS] at hi
 have hbig:decide ((1048576:Int)<(code.length:Int))=false:=decide_eq_false (by omega)
 generalize (Zbr (Cur.new code)).1.Zq=ps at hi
 generalize (Zbr (Cur.new code)).1.Zs=nx at hi
 simp -implicitDefEqProofs only [go_sem]
 refine kl_big code rfl ?_
 simp -implicitDefEqProofs only [go_sem,hbig,ZN.cells]
 repeat ((first|refine rq ?_|refine wl ?_|refine gl ?_|refine Zx9 code hl rfl ?_|fail);simp -implicitDefEqProofs only [go_sem,hbig,ZN.cells])
 generalize ZtY code=s at hi ⊢
 have hs:=hi.small
 have hf:=Zjm hs
 have hdk:=hs.disk
 have hrp:=Zbk hi.disk.disk
 have hb:=ZlJ (oldest:=Zco s) hi.disk
 have hB:=hi.disk.pages_len
 have hsm:=hb.txs.ok.smallW hB
 have hus:(Zdq s.Zc s.Zp (Zco s)).ZH.Pairwise (·< ·):=hb.txs.ok.usable
 have hpl:=(ZgY hi.disk.tree).2
 have hfew:=hi.few
 simp -implicitDefEqProofs only [go_sem,ZkV,GTxn.cells]
 repeat ((first|refine rq ?_|refine wl ?_|refine gl ?_|refine ZBZ s (by omega) (by simp -implicitDefEqProofs only [go_sem,ZN.cells_eq];first|done|rfl) ?_|refine ki_Begin s.Zc s.Zp (Zco s) hdk (ZaK hs.mt) hf hus (by simp -implicitDefEqProofs only [go_sem,ZT.cells_eq,ZX.cells_eq];first|done|rfl) ?_|refine ZB3 s.Zc s.Zp.Zy pg hi.disk.tree hdk.1 hdk.2 hrp (by simp -implicitDefEqProofs only [go_sem,ZT.cells_eq];first|done|rfl) ?_|fail);simp -implicitDefEqProofs only [go_sem,ZkV,GTxn.cells])
 have hw:Zdq s.Zc s.Zp (Zco s)=(ZlK s.Zc s.Zp (Zco s)).ZK:=rfl
 have hold:Zco s≤s.Zp.ZF:=ZgB.1
 have hours:∀x i,x∈rdP s pg i→x∉(ZlK s.Zc s.Zp (Zco s)).ZK.ZH∧x<(ZlK s.Zc s.Zp (Zco s)).ZK.Zs:=fun x i hx=>by
  have h:=ZCc hi hx
  exact ⟨fun h2=>h (.inl h2),Int.not_le.1 fun h2=>h (.inr h2)⟩
 generalize ZlK s.Zc s.Zp (Zco s)=t at hb hsm hw hours ⊢
 refine ZY (α:=Nat) (fun i=>⟨[(3,.ref 0 0),(4,.ref 1 0),(5,.own 2 0 (rdP s pg i).length),(6,.d (.bool true)),(7,.d (.int .i64 i))],[(0,some (.box (sdV s))),(1,some (.box (tdV t))),(2,some (.arr 1 (ints (rdP s pg i))))]⟩)
  (fun i=>i≤s.Zx.length) (fun i=>s.Zx.length - i) 0 (by simp [rdP,Zbw,ZkV,Zie]) (Nat.zero_le _) ?_
 rintro i i1
 have hi1:IntKind.i64.wrap ((i:Int)+1)=((i+1:Nat):Int):=ZV (by simp only [LEN];omega)
 have hri:=ZB6 (s:=s) hpl (i:=i) (by omega)
 simp -implicitDefEqProofs only [go_sem,ZkV,Zie]
 refine fork (fun h5=>?_) (fun h5=>?_)
 ·obtain ⟨r,hr⟩:=Z3 h5
  obtain ⟨_,pgr,htr,_⟩:=hi.rds r (List.mem_of_getElem? hr)
  obtain ⟨k,c,hlk⟩:=ZiY htr
  have hst:=ZB7 (pg:=pg) hr
  have hpv:ZqN s.Zc r.Zp.Zy= .tup [.d (.sl (ints (ZaP (Zc1 s.Zc r.Zp.Zy).pages))),.d (.bool true)]:=by unfold ZqN;rw [if_neg (by rw [hlk];simp)]
  have hpl2:=(@ZuH s.Zc r.Zp.Zy).1
  have hln:(rdP s pg i).length+(ZaP (Zc1 s.Zc r.Zp.Zy).pages).length=(rdP s pg (i+1)).length:=by rw [hst,List.length_append]
  have hal:(ints (rdP s pg i)).take (rdP s pg i).length++ints (ZaP (Zc1 s.Zc r.Zp.Zy).pages)=ints (rdP s pg (i+1)):=by rw [Zby,Zi3,hst]
  have hri2:=ZB6 (s:=s) hpl (i:=i+1) (by omega)
  simp -implicitDefEqProofs only [go_sem,ZkV,Zie,Zag hr,hpv,hal,Zi3,←hst,hln]
  repeat ((first|refine rq ?_|refine wl ?_|refine gl ?_|refine Zr9 s.Zc r.Zp.Zy hdk.1 hdk.2 hrp (by simp -implicitDefEqProofs only [go_sem,ZT.cells_eq];first|done|rfl) ?_|fail);simp -implicitDefEqProofs only [go_sem,ZkV,Zie,Zag hr,hpv,hal,Zi3,←hst,hln])
  rw [hi1]
  refine ZP (i+1) ?_ (by omega) (by omega)
  simp [hst,Zi3,ZkV,Zie]
 ·obtain rfl:i=s.Zx.length:=by omega
  simp -implicitDefEqProofs only [go_sem,ZkV,Zie]
  repeat ((first|refine rq ?_|refine wl ?_|refine gl ?_|fail);simp -implicitDefEqProofs only [go_sem,ZkV,Zie])
  refine ZY (α:=Nat) (fun k=>⟨[(3,.ref 0 0),(4,.ref 1 0),(5,.own 2 0 (rdP s pg s.Zx.length).length),(6,.d (.bool true)),(10,.d (.int .i64 k))],[(0,some (.box (sdV s))),(1,some (.box (tdV t))),(2,some (.arr 1 (ints (rdP s pg s.Zx.length))))]⟩)
   (fun k=>k≤(rdP s pg s.Zx.length).length) (fun k=>(rdP s pg s.Zx.length).length - k) 0 (by simp [ZkV,Zie]) (Nat.zero_le _) ?_
  rintro k k1
  have hk1:IntKind.i64.wrap ((k:Int)+1)=((k+1:Nat):Int):=ZV (by simp only [LEN];omega)
  simp -implicitDefEqProofs only [go_sem,ZkV,Zie]
  refine fork (fun h8=>?_) (fun h8=>?_)
  ·obtain ⟨x,hx⟩:=Z3 h8
   obtain ⟨o1,o2⟩:=hours x _ (List.mem_of_getElem? hx)
   have d1:decide (x∈t.ZK.ZH)=false:=decide_eq_false o1
   have d2:decide (t.ZK.Zs≤x)=false:=decide_eq_false (by omega)
   simp -implicitDefEqProofs only [go_sem,ZkV,Zie,ZO hx,d1,d2]
   repeat ((first|refine rq ?_|refine wl ?_|refine gl ?_|refine kl_in t.ZK.ZH x (by have:=hsm.2.1;simp only [LEN];omega) (ls:=[]) (by simp -implicitDefEqProofs only [go_sem];first|done|rfl) ?_|fail);simp -implicitDefEqProofs only [go_sem,ZkV,Zie,ZO hx,d1,d2])
   rw [hk1]
   exact ZP (k+1) (by simp [ZkV,Zie]) (by omega) (by omega)
  ·have d3:decide (Zco s≤s.Zp.ZF)=true:=decide_eq_true hold
   simp -implicitDefEqProofs only [go_sem,ZkV,Zie,ZS.cells,hw,d3]
   repeat ((first|refine rq ?_|refine wl ?_|refine gl ?_|refine ZjS s hs (by simp -implicitDefEqProofs only [go_sem,ZN.cells_eq];first|done|rfl) ?_|refine ZBZ s (by omega) (by simp -implicitDefEqProofs only [go_sem,ZN.cells_eq];first|done|rfl) ?_|refine Zr7 s.Zc s.Zp (Zco s) hdk (ZaK hs.mt).1 hf (by simp -implicitDefEqProofs only [go_sem,ZT.cells_eq,ZX.cells_eq];first|done|rfl) ?_|refine ZBn t.ZK hsm (by simp -implicitDefEqProofs only [go_sem,ZS.cells_eq];first|done|rfl) ?_|fail);simp -implicitDefEqProofs only [go_sem,ZkV,Zie,ZS.cells,hw,d3])
   try rfl
def ZCb (code:List UInt8) (hl:code.length≤1048576):=kf (ZB5 code hl)
theorem ZB4 (code:List UInt8) (hl:code.length≤LEN) (hb:¬code.length≤1048576):ZQ Go.Proofs.Tryz.prog 10 [.d (.sl (bys code))] [] [.dead] (.d (.bool true)) []:=by
 refine cof Go.Proofs.Tryz.func10 hr10 hl10 [false] ?_
 have hbig:decide ((1048576:Int)<(code.length:Int))=true:=decide_eq_true (by omega)
 simp -implicitDefEqProofs only [go_sem]
 refine kl_big code rfl ?_
 simp -implicitDefEqProofs only [go_sem,hbig]
 repeat ((first|refine rq ?_|refine wl ?_|refine gl ?_|fail);simp -implicitDefEqProofs only [go_sem,hbig])
def ZB9 (code:List UInt8) (hl:code.length≤LEN) (hb:¬code.length≤1048576):=kf (ZB4 code hl hb)
theorem ZCa (code:List UInt8) (h:code.length≤LEN∧∀x∈code,True):ZQ Go.Proofs.Tryz.prog 10 [.d (.sl (bys code))] [] [.dead] (.d (.bool true)) []:=
 if hl:code.length≤1048576 then ZB5 code hl else ZB4 code h.1 hl
end Go.Rx
