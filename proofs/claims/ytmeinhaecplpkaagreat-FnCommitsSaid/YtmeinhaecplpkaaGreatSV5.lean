/-
  Part V5: lemmas on an evaluator over plain data of the model's code, plain laws on lists and numbers, or contracts of functions of the program; each lemma names its conditions.
-/
import Derived.Test.YtmeinhaecplpkaaGreatSA1
import Derived.Test.YtmeinhaecplpkaaGreatSA4
import Derived.Test.YtmeinhaecplpkaaGreatSA8
import Derived.Test.YtmeinhaecplpkaaGreatSC3
import Derived.Test.YtmeinhaecplpkaaGreatSC5
import Derived.Test.YtmeinhaecplpkaaGreatSE1
import Derived.Test.YtmeinhaecplpkaaGreatSE4
import Derived.Test.YtmeinhaecplpkaaGreatSE5
import Derived.Test.YtmeinhaecplpkaaGreatSE6
import Derived.Test.YtmeinhaecplpkaaGreatSG3
import Derived.Test.YtmeinhaecplpkaaGreatSKI
import Derived.Test.YtmeinhaecplpkaaGreatSN1
import Derived.Test.YtmeinhaecplpkaaGreatSN17
import Derived.Test.YtmeinhaecplpkaaGreatSNX
import Derived.Test.YtmeinhaecplpkaaGreatSP1
import Derived.Test.YtmeinhaecplpkaaGreatSP2
import Derived.Test.YtmeinhaecplpkaaGreatSP3
import Derived.Test.YtmeinhaecplpkaaGreatSP4
import Derived.Test.YtmeinhaecplpkaaGreatSP5

set_option linter.unusedSimpArgs false
set_option linter.unusedVariables false
set_option maxRecDepth 100000
set_option maxHeartbeats 16000000
set_option linter.defProp false
namespace Go.Rx
open Go
theorem ZDC {d0:ZT} {m:ZX} {oldest:Int} {pg0:List Int}:∀ {f i:Nat} {c:Cur} {t:GTxn} {ps:List ZR} {pg:List Int},ZcB d0 m oldest pg0 t ps pg→∃ps pg,ZcB d0 m oldest pg0 (Zky f i c t).1 ps pg
 |0,_,_,_,ps,pg,h=>⟨ps,pg,h⟩
 |f+1,i,c,t,ps,pg,h=>by
  rw [Zky]
  split
  ·obtain ⟨ps',pg',h2⟩:=ZoH (c:=(c.below 6).2) h
   exact ZDC h2
  ·exact ⟨ps,pg,h⟩
theorem ZDF {c:Cur}:∃s ps0 pg0 next view ps pg,Zap s ps0 pg0 next view∧s=(Zbr c).1.ZB∧ZcB s.Zc s.Zp (Zco s) pg0 (txnD c).1 ps pg:=by
 obtain ⟨pg0,view,h⟩:=ZrH (c:=c)
 obtain ⟨ps,pg,h2⟩:=ZDC (f:=6) (i:=0) (c:=(Zbr c).2) (ZlJ (oldest:=Zco (Zbr c).1.ZB) h.store.disk)
 exact ⟨_,_,_,_,_,ps,pg,h.store,rfl,h2⟩
end Go.Rx
namespace Go.Rx
open Go
attribute [local irreducible] Req Way WayG Sel Z2 ZQ Zaz cVC Zai ZaO
theorem ZDD {d:ZT} {root:Int} {m:List ZR} (h:Zeo d root=some m):m.length≤LEN:=by
 unfold Zeo at h
 split at h
 ·cases h
 ·obtain rfl:=Option.some.inj h
  unfold ZkR
  split
  ·simp [Tr.new]
  ·have:=ZAI (d:=d) (f:=8) (page:=root) (t:=Tr.new)
   simp only [Tr.new,List.length_nil,LEN] at this ⊢
   omega
end Go.Rx
namespace Go.Rx
open Go
attribute [local irreducible] Req Way WayG Sel Z2 ZQ Zaz cVC Zai ZaO
theorem ZDE {t:GTxn} {d':ZT} {m':ZX} (hc:Zev t=some (d',m')):∃nm nb,Zbf t= .tup [.d (.agg (ZX.cells nm)),.d (.bool nb)]∧(m'.ZF=t.Za.ZF∨(nm=m'∧nb=true)):=by
 refine ⟨_,_,rfl,?_⟩
 unfold Zev at hc
 split at hc
 ·cases hc;exact .inl rfl
 ·split at hc
  ·cases hc
  ·next text hm=>
   obtain ⟨d,_,h⟩:=Option.map_eq_some_iff.1 hc
   have e:m'=Zbg t:=congrArg Prod.snd h.symm
   right
   rw [Zdb,hm,e]
   exact ⟨rfl,rfl⟩
@[go_sem] def hr12:ZW:=hh [[0],[0],[],[0],[3],[3,4,5,6],[3,4,5,6,7,8,9],[],[3,4,5,6],[3,5],[3,4,5],[3,4,5,10,11],[3,4,5,10,11,12,13]]
@[go_sem] def hl12:ZW:=hh []
attribute [go_sem] Go.Proofs.Tryz.results12
theorem ZDB (code:List UInt8) (hl:code.length≤1048576):ZQ Go.Proofs.Tryz.prog 12 [.d (.sl (bys code))] [] [.dead] (.d (.bool true)) []:=by
 refine cof Go.Proofs.Tryz.func12 hr12 hl12 [false] ?_
 obtain ⟨s,ps0,pg0,next,view,ps,pg,hi,_,hx⟩:=ZDF (c:=Cur.new code)
 have hbig:decide ((1048576:Int)<(code.length:Int))=false:=decide_eq_false (by omega)
 have hD:=hi.disk
 obtain ⟨b1,b3,b4⟩:=ZkQ hD hx
 have hsm:=hx.txs.ok.smallW hD.pages_len
 have hdd:Za5 (txnD (Cur.new code)).1.ZK.Zc:=hx.txs.ok.disk
 simp -implicitDefEqProofs only [go_sem]
 refine kl_big code rfl ?_
 simp -implicitDefEqProofs only [go_sem,hbig,GTxn.cells]
 repeat ((first|refine rq ?_|refine wl ?_|refine gl ?_|refine ks_DrawTxn code hl rfl ?_|fail);simp -implicitDefEqProofs only [go_sem,hbig,GTxn.cells])
 generalize (txnD (Cur.new code)).1=t at hx b1 b3 b4 hsm hdd ⊢
 have hb:=ZaK b1
 have hb1:t.Za.Ze.length≤LEN:=by have:=hb.1;simp only [LEN];omega
 have hb2:∀f∈t.Za.Ze,f.Zv.length≤LEN:=fun f hf=>by have:f.Zv.length≤1048576:=hb.2 f hf;simp only [LEN];omega
 have hw:=hsm.1
 refine ki_Commit t b1 hsm b3 b4 (by simp -implicitDefEqProofs only [go_sem,GTxn.cells_eq];first|done|rfl) ?_
 cases hc:Zev t with
 |none=>
  have hcv:Zh4 t= .tup [.d (.agg t.ZK.Zc.cells),.d (.agg t.Za.cells),.d (.bool false)]:=by rw [Zh4,hc]
  simp -implicitDefEqProofs only [go_sem,hcv,GTxn.cells,ZT.cells,ZX.cells]
  repeat ((first|refine rq ?_|refine wl ?_|refine gl ?_|refine Zhk t b1 hsm b3 b4 (by simp -implicitDefEqProofs only [go_sem,GTxn.cells_eq];first|done|rfl) ?_|refine ZBp t.ZK.Zc (by have:=hw.1;simp only [LEN];omega) (by have:=hw.2;simp only [LEN];omega) (by simp -implicitDefEqProofs only [go_sem,ZT.cells_eq];first|done|rfl) ?_|refine ZBo t.Za hb1 hb2 (by simp -implicitDefEqProofs only [go_sem,ZX.cells_eq];first|done|rfl) ?_|fail);simp -implicitDefEqProofs only [go_sem,hcv,GTxn.cells,ZT.cells,ZX.cells])
  try rfl
 |some r=>
  obtain ⟨d',m'⟩:=r
  have hcv:Zh4 t= .tup [.d (.agg d'.cells),.d (.agg m'.cells),.d (.bool true)]:=by rw [Zh4,hc]
  have hC:=ZlA hD hx hc
  have hI:=hC.inv
  obtain ⟨nm,nb,hnv,hor⟩:=ZDE hc
  have hm:=ZaK hI.ok
  have hm1:m'.Ze.length≤LEN:=by have:=hm.1;simp only [LEN];omega
  have hm2:∀f∈m'.Ze,f.Zv.length≤LEN:=fun f hf=>by have:f.Zv.length≤1048576:=hm.2 f hf;simp only [LEN];omega
  have hd:=Zb4 hI.disk
  have hrp:=Zbk hI.disk
  have hrp2:=Zbk hdd
  have hbm:Zhd (Zf7 d')= .tup [.d (.agg m'.cells),.d (.bool true)]:=by rw [Zon hI];rfl
  have hp1:=ZgV hI.tree
  have hp2:=ZgV hx.txs.tree
  have hpl:=ZDD hp1
  have dps:decide (ps=ps)=true:=decide_eq_true rfl
  simp -implicitDefEqProofs only [go_sem,hcv,GTxn.cells,ZT.cells,ZX.cells]
  repeat ((first|refine rq ?_|refine wl ?_|refine gl ?_|refine Zhk t b1 hsm b3 b4 (by simp -implicitDefEqProofs only [go_sem,GTxn.cells_eq];first|done|rfl) ?_|refine ZBp d' (by have:=hd.1;simp only [LEN];omega) (by have:=hd.2;simp only [LEN];omega) (by simp -implicitDefEqProofs only [go_sem,ZT.cells_eq];first|done|rfl) ?_|refine ZBo m' hm1 hm2 (by simp -implicitDefEqProofs only [go_sem,ZX.cells_eq];first|done|rfl) ?_|fail);simp -implicitDefEqProofs only [go_sem,hcv,GTxn.cells,ZT.cells,ZX.cells])
  have d0:decide ((d'.Zm.length:Int)=0)=true:=by rw [hI.late];rfl
  refine Zo9 d' hd.1 hd.2 hrp (by simp -implicitDefEqProofs only [go_sem,ZT.cells_eq];first|done|rfl) ?_
  have hbase:t.Za.ZF=s.Zp.ZF:=by rw [hx.base]
  have htx:=hC.tx
  have htx2:=b1.1.1
  have hw1:IntKind.i64.wrap (t.Za.ZF+1)=t.Za.ZF+1:=Zad (by omega) (by omega)
  by_cases e:m'.ZF=t.Za.ZF
  ·have de:decide (m'.ZF=t.Za.ZF)=true:=decide_eq_true e
   simp -implicitDefEqProofs only [go_sem,hbm,hnv,dps,de,d0,GTxn.cells,ZT.cells,ZX.cells]
   repeat ((first|refine rq ?_|refine wl ?_|refine gl ?_|refine ZC0 t b1 hsm b3 b4 (by simp -implicitDefEqProofs only [go_sem,GTxn.cells_eq];first|done|rfl) ?_|refine ZBo m' hm1 hm2 (by simp -implicitDefEqProofs only [go_sem,ZX.cells_eq];first|done|rfl) ?_|refine kl_pairs d' m'.Zy ps hp1 hd.1 hd.2 hrp (by simp -implicitDefEqProofs only [go_sem,ZT.cells_eq];first|done|rfl) ?_|refine kl_pairs t.ZK.Zc t.Zy ps hp2 hw.1 hw.2 hrp2 (by simp -implicitDefEqProofs only [go_sem,ZT.cells_eq];first|done|rfl) ?_|refine ZBz ps ps hpl (by simp -implicitDefEqProofs only [go_sem];first|done|rfl) ?_|refine ZDx d' m' hI (free_small hI) (by simp -implicitDefEqProofs only [go_sem,ZT.cells_eq,ZX.cells_eq];first|done|rfl) ?_|fail);simp -implicitDefEqProofs only [go_sem,hbm,hnv,dps,de,d0,GTxn.cells,ZT.cells,ZX.cells])
   try rfl
  ·have de:decide (m'.ZF=t.Za.ZF)=false:=decide_eq_false e
   have de2:decide (m'.ZF=t.Za.ZF+1)=true:=decide_eq_true (by omega)
   obtain ⟨rfl,rfl⟩:=hor.resolve_left e
   simp -implicitDefEqProofs only [go_sem,hbm,hnv,dps,de,de2,hw1,d0,GTxn.cells,ZT.cells,ZX.cells]
   repeat ((first|refine rq ?_|refine wl ?_|refine gl ?_|refine ZC0 t b1 hsm b3 b4 (by simp -implicitDefEqProofs only [go_sem,GTxn.cells_eq];first|done|rfl) ?_|refine ZBo nm hm1 hm2 (by simp -implicitDefEqProofs only [go_sem,ZX.cells_eq];first|done|rfl) ?_|refine kl_pairs d' nm.Zy ps hp1 hd.1 hd.2 hrp (by simp -implicitDefEqProofs only [go_sem,ZT.cells_eq];first|done|rfl) ?_|refine kl_pairs t.ZK.Zc t.Zy ps hp2 hw.1 hw.2 hrp2 (by simp -implicitDefEqProofs only [go_sem,ZT.cells_eq];first|done|rfl) ?_|refine ZBz ps ps hpl (by simp -implicitDefEqProofs only [go_sem];first|done|rfl) ?_|refine ZDx d' nm hI (free_small hI) (by simp -implicitDefEqProofs only [go_sem,ZT.cells_eq,ZX.cells_eq];first|done|rfl) ?_|fail);simp -implicitDefEqProofs only [go_sem,hbm,hnv,dps,de,de2,hw1,d0,GTxn.cells,ZT.cells,ZX.cells])
   try rfl
def kl_Commits (code:List UInt8) (hl:code.length≤1048576):=kf (ZDB code hl)
theorem ZDA (code:List UInt8) (hl:code.length≤LEN) (hb:¬code.length≤1048576):ZQ Go.Proofs.Tryz.prog 12 [.d (.sl (bys code))] [] [.dead] (.d (.bool true)) []:=by
 refine cof Go.Proofs.Tryz.func12 hr12 hl12 [false] ?_
 have hbig:decide ((1048576:Int)<(code.length:Int))=true:=decide_eq_true (by omega)
 simp -implicitDefEqProofs only [go_sem]
 refine kl_big code rfl ?_
 simp -implicitDefEqProofs only [go_sem,hbig]
 repeat ((first|refine rq ?_|refine wl ?_|refine gl ?_|fail);simp -implicitDefEqProofs only [go_sem,hbig])
def ZDG (code:List UInt8) (hl:code.length≤LEN) (hb:¬code.length≤1048576):=kf (ZDA code hl hb)
theorem ZDH (code:List UInt8) (h:code.length≤LEN∧∀x∈code,True):ZQ Go.Proofs.Tryz.prog 12 [.d (.sl (bys code))] [] [.dead] (.d (.bool true)) []:=
 if hl:code.length≤1048576 then ZDB code hl else ZDA code h.1 hl
end Go.Rx
