/-
  Part C3: lemmas on an evaluator over plain data of the model's code, plain laws on lists and numbers, or contracts of functions of the program; each lemma names its conditions.
-/
import Derived.Test.YtmeinhaecplpkaaGreatRC2
import Derived.Test.YtmeinhaecplpkaaGreatRB1
import Derived.Test.YtmeinhaecplpkaaGreatRP5

set_option linter.unusedSimpArgs false
set_option linter.unusedVariables false
namespace Go.Rx
open Go
attribute [local irreducible] Req Way WayG Sel callVC CallOK seqVC cVC loopVC nextK
theorem fz_disk2 {P:Program} {f:FuncId} {args outs:List V} {d:GDisk} {y:D} (hc:CallOK P f args [] outs (.tup [.agg [.own 0 0 d.fPages.length,.own 1 0 d.fLate.length],.d y]) [(0,.arr 1 (strs d.fPages)),(1,.arr 2 (GPutS d.fLate))]) (ho:(outs.all fun x=>match x with| .dead=>true|_=>false)=true):CallOK P f args [] outs (.tup [.d (.agg d.cells),.d y]) []:=
 freeze (ls:=[0,1]) hc (by simp [freezeV,toDs,toD,cD,cDs,hget,GDisk.cells,strs_all,GPutS_all]) ho
theorem wrF_cells {d:GDisk} {p:Int} {t:Key}:wrF d p t=⟨d.fPages,wrO d p t⟩:=by
 unfold wrF wrO
 cases h:writePage d p t with
 |none=>rfl
 |some d'=>
  obtain ⟨_,h2,h3,_⟩:=writePage_ok h
  cases d'
  simp only at h2 h3
  simp [h2,h3]
theorem cs_WritePageF (d:GDisk) (p:Int) (t:List UInt8) (hd:smallD d):CallOK Go.Proofs.Tryz.prog 117 [.d (.agg d.cells),.d (.int .i64 p),.d (.str t)] [] [.dead,.dead,.dead] (.tup [.d (.agg (wrF d p t).cells),.d (.bool (writePage d p t).isSome)]) []:=by
 rw [wrF_cells]
 exact fz_disk2 (d:=⟨d.fPages,wrO d p t⟩) (cs_WritePage d p t hd) rfl
@[go_sem] def hr62:Hints
 |0=> [0]|1=> [1,2]|2=> [1,2,4,5]|3=> [2,4,5,6,7]|4=> [2,4]|5=> [2,6,7]|6=> [2,6]|7=> [2]|_=> []
@[go_sem] def hl62:Hints:=fun _=> []
attribute [go_sem] Go.Proofs.Tryz.results62
set_option maxRecDepth 100000 in
set_option maxHeartbeats 16000000 in
theorem cs_BestMeta (d:GDisk) (h1:d.fPages.length≤1048576) (h2:d.fLate.length≤1048576) (hsm:∀p,(readPage d p).length≤1048576):CallOK Go.Proofs.Tryz.prog 62 [.d (.agg d.cells)] [] [.dead] (metaV (bestMeta d)) []:=by
 refine call_fr tysZOK mixedZ Go.Proofs.Tryz.func62 (by kernel_rfl) rfl (by kernel_rfl) hr62 hl62 (by simp [Go.Proofs.Tryz.ntmps62]) rfl ?_
 have g0:=hsm 0
 have g1:=hsm 1
 simp -implicitDefEqProofs only [go_sem,GDisk.cells]
 refine ks_ReadPage d 0 (by omega) (by omega) rfl ?_
 simp -implicitDefEqProofs only [go_sem]
 refine ks_ReadMeta (readPage d 0) (by omega) rfl ?_
 unfold bestMeta
 cases h0:readMeta (readPage d 0) with
 |none=>
  simp only [metaV_none,metaV_some]
  simp -implicitDefEqProofs only [go_sem]
  refine ks_ReadPage d 1 (by omega) (by omega) rfl ?_
  simp -implicitDefEqProofs only [go_sem]
  refine ks_ReadMeta (readPage d 1) (by omega) rfl ?_
  cases h1:readMeta (readPage d 1) with
  |none=>
   simp only [metaV_none,metaV_some]
   simp -implicitDefEqProofs only [go_sem]
   repeat ((first|refine rq ?_|refine wy ?_|refine wn ?_|refine gy ?_|refine gn ?_|fail);simp -implicitDefEqProofs only [go_sem])
   try rfl
  |some b=>
   simp only [metaV_none,metaV_some]
   simp -implicitDefEqProofs only [go_sem,GMeta.cells]
   repeat ((first|refine rq ?_|refine wy ?_|refine wn ?_|refine gy ?_|refine gn ?_|fail);simp -implicitDefEqProofs only [go_sem,GMeta.cells])
   try rfl
 |some a=>
  simp only [metaV_none,metaV_some]
  simp -implicitDefEqProofs only [go_sem]
  refine ks_ReadPage d 1 (by omega) (by omega) rfl ?_
  simp -implicitDefEqProofs only [go_sem]
  refine ks_ReadMeta (readPage d 1) (by omega) rfl ?_
  cases h1:readMeta (readPage d 1) with
  |none=>
   simp only [metaV_none,metaV_some]
   simp -implicitDefEqProofs only [go_sem,GMeta.cells]
   repeat ((first|refine rq ?_|refine wy ?_|refine wn ?_|refine gy ?_|refine gn ?_|fail);simp -implicitDefEqProofs only [go_sem,GMeta.cells])
   try rfl
  |some b=>
   by_cases hx:b.fTx≤a.fTx
   ·have dx:=decide_eq_true hx
    simp only [metaV_none,metaV_some,if_pos hx]
    simp -implicitDefEqProofs only [go_sem,GMeta.cells,dx]
    repeat ((first|refine rq ?_|refine wy ?_|refine wn ?_|refine gy ?_|refine gn ?_|fail);simp -implicitDefEqProofs only [go_sem,GMeta.cells,dx])
    try rfl
   ·have dx:=decide_eq_false hx
    simp only [metaV_none,metaV_some,if_neg hx]
    simp -implicitDefEqProofs only [go_sem,GMeta.cells,dx]
    repeat ((first|refine rq ?_|refine wy ?_|refine wn ?_|refine gy ?_|refine gn ?_|fail);simp -implicitDefEqProofs only [go_sem,GMeta.cells,dx])
    try rfl
theorem ks_BestMeta {h:Heap} {tb:Nat} {K:OK} {args:List V} (d:GDisk) (h1:d.fPages.length≤1048576) (h2:d.fLate.length≤1048576) (hsm:∀p,(readPage d p).length≤1048576) (hg:toDs h args=some ([.agg d.cells],[]))
  (hk:K (renV (bk tb ([])) (metaV (bestMeta d))) (updN tb ([]) ([]))):callVC Go.Proofs.Tryz.prog h tb 62 args K:=
 call_free hg (cs_BestMeta d h1 h2 hsm) rfl (.inl rfl) hk
end Go.Rx
namespace Go.Rx
open Go
attribute [local irreducible] Req Way WayG Sel callVC CallOK seqVC cVC loopVC nextK
@[go_sem] def hr133:Hints
 |0=> [0]|1=> [0]|2=> []|3=> []|_=> []
@[go_sem] def hl133:Hints:=fun _=> []
attribute [go_sem] Go.Proofs.Tryz.results133
set_option maxRecDepth 100000 in
set_option maxHeartbeats 16000000 in
theorem cs_MetaPage (x:Int) (hx:0≤x):CallOK Go.Proofs.Tryz.prog 133 [.d (.int .i64 x)] [] [.dead] (.d (.int .i64 (x%2))) []:=by
 refine call_of tysZOK mixedZ Go.Proofs.Tryz.func133 (by kernel_rfl) rfl (np:=[false]) (by kernel_rfl) hr133 hl133 (by simp [Go.Proofs.Tryz.ntmps133]) ?_
 have e:Int.tmod x 2=x%2:=Int.tmod_eq_emod_of_nonneg hx
 by_cases h0:x%2=0
 ·have d0:=decide_eq_true h0
  simp -implicitDefEqProofs only [go_sem,e,d0]
  repeat ((first|refine rq ?_|refine wy ?_|refine wn ?_|refine gy ?_|refine gn ?_|fail);simp -implicitDefEqProofs only [go_sem,e,d0])
  rw [h0]
 ·have d0:=decide_eq_false h0
  have h1:x%2=1:=by omega
  simp -implicitDefEqProofs only [go_sem,e,d0]
  repeat ((first|refine rq ?_|refine wy ?_|refine wn ?_|refine gy ?_|refine gn ?_|fail);simp -implicitDefEqProofs only [go_sem,e,d0])
  rw [h1]
theorem ks_MetaPage {h:Heap} {tb:Nat} {K:OK} {args:List V} {ls:List Nat} (x:Int) (hx:0≤x) (hg:toDs h args=some ([.int .i64 x],ls))
  (hk:K (renV (bk tb ([])) (.d (.int .i64 (x%2)))) (updN tb ([]) ([]))):callVC Go.Proofs.Tryz.prog h tb 133 args K:=
 call_free hg (cs_MetaPage x hx) rfl (.inr ⟨flat_of rfl,flatHB_of rfl⟩) hk
end Go.Rx
namespace Go.Rx
open Go
attribute [local irreducible] Req Way WayG Sel callVC CallOK seqVC cVC loopVC nextK
@[go_sem] def hr36:Hints
 |0=> [0]|1=> [0,2]|2=> [2]|3=> [0,2]|_=> []
@[go_sem] def hl36:Hints:=fun _=> []
attribute [go_sem] Go.Proofs.Tryz.results36
set_option maxRecDepth 100000 in
set_option maxHeartbeats 16000000 in
theorem cs_DiskNew (n:Nat) (hn:4≤n∧n≤40):CallOK Go.Proofs.Tryz.prog 36 [.d (.int .i64 n)] [] [.dead] (.tup [.d (.agg (⟨List.replicate n [],[]⟩:GDisk).cells),.d (.bool true)]) []:=by
 refine call_fr tysZOK mixedZ Go.Proofs.Tryz.func36 (by kernel_rfl) rfl (by kernel_rfl) hr36 hl36 (by simp [Go.Proofs.Tryz.ntmps36]) rfl ?_
 have d1:decide (4≤(n:Int)∧(n:Int)≤40)=true:=decide_eq_true (by omega)
 simp -implicitDefEqProofs only [go_sem,d1]
 repeat ((first|refine rq ?_|refine wy ?_|refine wn ?_|refine gy ?_|refine gn ?_|refine ks_in _ _ _ rfl ?_|fail);simp -implicitDefEqProofs only [go_sem,d1])
 simp [GDisk.cells,strs,GPutS]
theorem ks_DiskNew {h:Heap} {tb:Nat} {K:OK} {args:List V} (n:Nat) (hn:4≤n∧n≤40) (hg:toDs h args=some ([.int .i64 n],[]))
  (hk:K (renV (bk tb ([])) (.tup [.d (.agg (⟨List.replicate n [],[]⟩:GDisk).cells),.d (.bool true)])) (updN tb ([]) ([]))):callVC Go.Proofs.Tryz.prog h tb 36 args K:=
 call_free hg (cs_DiskNew n hn) rfl (.inl rfl) hk
end Go.Rx
namespace Go.Rx
open Go
attribute [local irreducible] Req Way WayG Sel callVC CallOK seqVC cVC loopVC nextK
@[go_sem] def hr33:Hints
 |0=> [0]|1=> [1,2]|2=> [1,2,4,5]|3=> [2]|4=> [1,2,4]|_=> []
@[go_sem] def hl33:Hints:=fun _=> []
attribute [go_sem] Go.Proofs.Tryz.results33
set_option maxRecDepth 100000 in
set_option maxHeartbeats 16000000 in
theorem cs_Open (d:GDisk) (h1:d.fPages.length≤1048576) (h2:d.fLate.length≤1048576) (hsm:∀p,(readPage d p).length≤1048576):CallOK Go.Proofs.Tryz.prog 33 [.d (.agg d.cells)] [] [.dead] (openV d) []:=by
 refine call_fr tysZOK mixedZ Go.Proofs.Tryz.func33 (by kernel_rfl) rfl (by kernel_rfl) hr33 hl33 (by simp [Go.Proofs.Tryz.ntmps33]) rfl ?_
 unfold openV openF
 simp -implicitDefEqProofs only [go_sem,GDisk.cells]
 refine ks_BestMeta d h1 h2 hsm (by simp -implicitDefEqProofs only [go_sem,GDisk.cells_eq];first|done|rfl) ?_
 cases hb:bestMeta d with
 |none=>
  simp only [metaV_none,metaV_some,Option.bind_none]
  simp -implicitDefEqProofs only [go_sem]
  repeat ((first|refine rq ?_|refine wy ?_|refine wn ?_|refine gy ?_|refine gn ?_|fail);simp -implicitDefEqProofs only [go_sem])
  try rfl
 |some m=>
  simp only [metaV_none,metaV_some,Option.bind_some]
  by_cases hd:diskOk d
  ·have dd:=decide_eq_true hd
   simp only [if_pos hd]
   simp -implicitDefEqProofs only [go_sem,GMeta.cells,GDisk.cells,dd]
   repeat ((first|refine rq ?_|refine wy ?_|refine wn ?_|refine gy ?_|refine gn ?_|refine ks_DiskOk d ⟨h1,h2⟩ (by simp -implicitDefEqProofs only [go_sem,GDisk.cells_eq];first|done|rfl) ?_|refine kdata (xs:=[.agg d.cells]) (cs_l03CopyF d ⟨h1,h2⟩) (by simp -implicitDefEqProofs only [go_sem,GDisk.cells_eq];first|done|rfl) rfl ?_|fail);simp -implicitDefEqProofs only [go_sem,GMeta.cells,GDisk.cells,dd])
   try rfl
  ·have dd:=decide_eq_false hd
   simp only [if_neg hd]
   simp -implicitDefEqProofs only [go_sem,GMeta.cells,GDisk.cells,dd]
   repeat ((first|refine rq ?_|refine wy ?_|refine wn ?_|refine gy ?_|refine gn ?_|refine ks_DiskOk d ⟨h1,h2⟩ (by simp -implicitDefEqProofs only [go_sem,GDisk.cells_eq];first|done|rfl) ?_|fail);simp -implicitDefEqProofs only [go_sem,GMeta.cells,GDisk.cells,dd])
   try rfl
theorem ks_Open {h:Heap} {tb:Nat} {K:OK} {args:List V} (d:GDisk) (h1:d.fPages.length≤1048576) (h2:d.fLate.length≤1048576) (hsm:∀p,(readPage d p).length≤1048576) (hg:toDs h args=some ([.agg d.cells],[]))
  (hk:K (renV (bk tb ([])) (openV d)) (updN tb ([]) ([]))):callVC Go.Proofs.Tryz.prog h tb 33 args K:=
 call_free hg (cs_Open d h1 h2 hsm) rfl (.inl rfl) hk
end Go.Rx
namespace Go.Rx
open Go
attribute [local irreducible] Req Way WayG Sel callVC CallOK seqVC cVC loopVC nextK
@[go_sem] def hr238:Hints
 |0=> [0]|1=> [0,2]|2=> [2,4,5]|3=> [2]|4=> [2,4]|5=> [2,4,6]|6=> [2,4]|_=> []
@[go_sem] def hl238:Hints:=fun _=> []
attribute [go_sem] Go.Proofs.Tryz.results238
set_option maxRecDepth 100000 in
set_option maxHeartbeats 16000000 in
theorem cs_Format (n:Nat) (hn:4≤n∧n≤40):CallOK Go.Proofs.Tryz.prog 238 [.d (.int .i64 n)] [] [.dead] (.tup [.d (.agg (fmtD n).cells),.d (.bool true)]) []:=by
 refine call_fr tysZOK mixedZ Go.Proofs.Tryz.func238 (by kernel_rfl) rfl (by kernel_rfl) hr238 hl238 (by simp [Go.Proofs.Tryz.ntmps238]) rfl ?_
 simp -implicitDefEqProofs only [go_sem]
 refine ks_DiskNew n hn rfl ?_
 simp -implicitDefEqProofs only [go_sem,GDisk.cells]
 repeat ((first|refine rq ?_|refine wy ?_|refine wn ?_|refine gy ?_|refine gn ?_|refine ks_MetaText meta0 (smallGMeta_ok meta0_ok) (by simp -implicitDefEqProofs only [go_sem,meta0,GMeta.cells,GFreeS];first|done|rfl) ?_|fail);simp -implicitDefEqProofs only [go_sem,GDisk.cells])
 rw [metaTextV,meta0_text]
 simp only [Option.getD_some,Option.isSome_some]
 have hs:smallD ⟨List.replicate n [],[]⟩:=by have:=fmt_disk0 hn;exact ⟨by have:=this.2.1;omega,by simp⟩
 have hw:=fmt_write hn
 simp -implicitDefEqProofs only [go_sem,GDisk.cells]
 refine kdata (xs:=[.agg (⟨List.replicate n [],[]⟩:GDisk).cells,.int .i64 0,.str (metaT meta0)]) (cs_WritePageF ⟨List.replicate n [],[]⟩ 0 (metaT meta0) hs) (by simp -implicitDefEqProofs only [go_sem,GDisk.cells_eq];first|done|rfl) rfl ?_
 rw [wrF_some hw,hw]
 simp -implicitDefEqProofs only [go_sem,GDisk.cells]
 repeat ((first|refine rq ?_|refine ks_SyncDisk (⟨List.replicate n [],[⟨0,metaT meta0⟩]⟩:GDisk) ⟨hs.1,by simp⟩ (by simp -implicitDefEqProofs only [go_sem,GDisk.cells];first|done|rfl) ?_|fail);simp -implicitDefEqProofs only [go_sem,GDisk.cells])
 rw [sync_fmt hn.1]
 try rfl
theorem ks_Format {h:Heap} {tb:Nat} {K:OK} {args:List V} (n:Nat) (hn:4≤n∧n≤40) (hg:toDs h args=some ([.int .i64 n],[]))
  (hk:K (renV (bk tb ([])) (.tup [.d (.agg (fmtD n).cells),.d (.bool true)])) (updN tb ([]) ([]))):callVC Go.Proofs.Tryz.prog h tb 238 args K:=
 call_free hg (cs_Format n hn) rfl (.inl rfl) hk
end Go.Rx
namespace Go.Rx
open Go
attribute [local irreducible] Req Way WayG Sel callVC CallOK seqVC cVC loopVC nextK
@[go_sem] def hr60:Hints
 |0=> [0,1,2]|1=> [1,2,3,6]|2=> [3,6]|3=> [1,2,3,6]|4=> [1,2,3,6,7]|5=> [1,2,3,6,7,8]|6=> [1,2,3,6,7,8]|7=> [1,2,3,6,7,8]|8=> [1,2,3,6,7,8]|9=> [1,2,3,6,7,8,9]|10=> [1,2,3,6,7,8,9]|11=> [1,2,3,6,7,8,9]|12=> [6,7]|_=> []
@[go_sem] def hl60:Hints
 |5=> [1,2,3,6,7,8]|_=> []
attribute [go_sem] Go.Proofs.Tryz.results60
set_option maxRecDepth 100000 in
set_option maxHeartbeats 16000000 in
theorem cs_FallDisk (d:GDisk) (hd:diskOk d) (left:List Bool) (hl:left.length≤1048576) (torn:Int):CallOK Go.Proofs.Tryz.prog 60 [.d (.agg d.cells),.d (.sl (bls left)),.d (.int .i64 torn)] [] [.dead,.dead,.dead] (.d (.agg (fallD d left torn).cells)) []:=by
 refine call_fr tysZOK mixedZ Go.Proofs.Tryz.func60 (by kernel_rfl) rfl (by kernel_rfl) hr60 hl60 (by simp [Go.Proofs.Tryz.ntmps60]) rfl ?_
 have dd:=decide_eq_true hd
 have hd':=hd
 obtain ⟨g1,g2,g3,g4,g5⟩:=hd'
 simp -implicitDefEqProofs only [go_sem,GDisk.cells]
 refine ks_DiskOk d ⟨by omega,by omega⟩ (by simp -implicitDefEqProofs only [go_sem,GDisk.cells_eq];first|done|rfl) ?_
 simp -implicitDefEqProofs only [go_sem,dd]
 repeat ((first|refine rq ?_|refine wy ?_|refine wn ?_|refine gy ?_|refine gn ?_|fail);simp -implicitDefEqProofs only [go_sem,dd])
 refine loop_data (α:=Nat) (fun i=>⟨[(1,.d (.sl (bls left))),(2,.d (.int .i64 torn)),(3,.ref 0 0),(6,.ref 1 0),(7,.ref 4 0),(8,.d (.int .i64 i))],[(0,some (.box [.d (.sl (strs d.fPages)),.d (.sl (GPutS d.fLate))])),(1,some (.box [.own 2 0 0,.own 3 0 0])),(2,some (.arr 1 [])),(3,some (.arr 2 [])),(4,some (.box [.own 5 0 d.fPages.length,.own 6 0 0])),(5,some (.arr 1 (strs (fallSt d left torn i)))),(6,some (.arr 2 []))]⟩)
  (fun i=>i≤d.fLate.length) (fun i=>d.fLate.length - i) 0 rfl (Nat.zero_le _) ?_
 rintro i i1
 have hlen:=fallSt_len (d:=d) (left:=left) (torn:=torn) (i:=i)
 simp -implicitDefEqProofs only [go_sem]
 (first|(refine way_dec (fun h5=>?_) (fun h5=>?_))|(refine way_ndec (fun h5=>?_) (fun h5=>?_))|(refine wayT_dec (fun h5=>?_) (fun h5=>?_))|(refine wayF_dec (fun h5=>?_) (fun h5=>?_))|(refine wayT_ndec (fun h5=>?_) (fun h5=>?_))|(refine wayF_ndec (fun h5=>?_) (fun h5=>?_))|(refine way_not (fun h5=>?_) (fun h5=>?_))|(refine way (fun h5=>?_) (fun h5=>?_))|(refine wayT (fun h5=>?_) (fun h5=>?_))|(refine wayF (fun h5=>?_) (fun h5=>?_)))
 ·obtain ⟨q,hq⟩:=some_at h5
  obtain ⟨q1,q2⟩:=g5 q (List.mem_of_getElem? hq)
  have hst:=fallSt_step (left:=left) (torn:=torn) hq
  have hcast:((q.fPage.toNat:Nat):Int)=q.fPage:=by have:=q1.1;omega
  have hlt:q.fPage.toNat<(fallSt d left torn i).length:=by have:=q1.1;have:=q1.2;omega
  obtain ⟨z,hz⟩:=some_at (l:=fallSt d left torn i) (i:=q.fPage.toNat) (by omega)
  have hi1:IntKind.i64.wrap ((i:Int)+1)=((i+1:Nat):Int):=wrap_succ (by simp only [LEN];omega)
  by_cases hlf:left.length≤i
  ·have d1:decide ((left.length:Int)≤(i:Int))=true:=decide_eq_true (by omega)
   have:left.getD i false=false:=by rw [List.getD_eq_getElem?_getD,List.getElem?_eq_none hlf];rfl
   rw [if_neg (by rw [this];simp)] at hst
   simp -implicitDefEqProofs only [go_sem,d1]
   repeat ((first|refine rq ?_|refine wy ?_|refine wn ?_|refine gy ?_|refine gn ?_|fail);simp -implicitDefEqProofs only [go_sem,d1])
   rw [hi1,←hst]
   exact next_data (i+1) rfl (by omega) (by omega)
  ·have d1:decide ((left.length:Int)≤(i:Int))=false:=decide_eq_false (by omega)
   obtain ⟨b,hb⟩:=some_at (l:=left) (i:=i) (by omega)
   have hgb:left.getD i false=b:=by rw [List.getD_eq_getElem?_getD,hb];rfl
   rw [hgb] at hst
   cases b with
   |false=>
    rw [if_neg (by simp)] at hst
    simp -implicitDefEqProofs only [go_sem,d1,lget_bls hb]
    repeat ((first|refine rq ?_|refine wy ?_|refine wn ?_|refine gy ?_|refine gn ?_|fail);simp -implicitDefEqProofs only [go_sem,d1,lget_bls hb])
    rw [hi1,←hst]
    exact next_data (i+1) rfl (by omega) (by omega)
   |true=>
    rw [if_pos rfl] at hst
    by_cases ht:(i:Int)=torn
    ·have dt:=decide_eq_true ht
     rw [dt] at hst
     have e2:IntKind.i64.wrap (Int.tdiv (q.fText.length:Int) 2)=((q.fText.length / 2:Nat):Int):=by rw [Int.tdiv_eq_ediv_of_nonneg (by omega),wrap_int (by omega) (by omega)];omega
     have e3:tornT q.fText true=q.fText.take (q.fText.length / 2):=by simp [tornT]
     rw [e3] at hst
     simp -implicitDefEqProofs only [go_sem,d1,lget_bls hb,lget_GPutS hq,dt,e2,lget_strs hz,strs_set]
     repeat ((first|refine rq ?_|refine wy ?_|refine wn ?_|refine gy ?_|refine gn ?_|fail);simp -implicitDefEqProofs only [go_sem,d1,lget_bls hb,lget_GPutS hq,dt,e2,lget_strs hz,strs_set])
     rw [hi1,←hst]
     exact next_data (i+1) rfl (by omega) (by omega)
    ·have dt:=decide_eq_false ht
     rw [dt] at hst
     have e3:tornT q.fText false=q.fText:=by simp [tornT]
     rw [e3] at hst
     simp -implicitDefEqProofs only [go_sem,d1,lget_bls hb,lget_GPutS hq,dt,lget_strs hz,strs_set]
     repeat ((first|refine rq ?_|refine wy ?_|refine wn ?_|refine gy ?_|refine gn ?_|fail);simp -implicitDefEqProofs only [go_sem,d1,lget_bls hb,lget_GPutS hq,dt,lget_strs hz,strs_set])
     rw [hi1,←hst]
     exact next_data (i+1) rfl (by omega) (by omega)
 ·have hall:=fallSt_all (left:=left) (torn:=torn) hd (i:=i) (by omega)
  rw [hall]
  have ht:(strs (fallSt d left torn i)).take d.fPages.length=strs (fallSt d left torn i):=by rw [←hlen,strs_all]
  simp -implicitDefEqProofs only [go_sem,ht,GDisk.cells]
  repeat ((first|refine rq ?_|refine wy ?_|refine wn ?_|refine gy ?_|refine gn ?_|fail);simp -implicitDefEqProofs only [go_sem,ht,GDisk.cells])
  try rfl
theorem ks_FallDisk {h:Heap} {tb:Nat} {K:OK} {args:List V} (d:GDisk) (hd:diskOk d) (left:List Bool) (hl:left.length≤1048576) (torn:Int) (hg:toDs h args=some ([.agg d.cells,.sl (bls left),.int .i64 torn],[]))
  (hk:K (renV (bk tb ([])) (.d (.agg (fallD d left torn).cells))) (updN tb ([]) ([]))):callVC Go.Proofs.Tryz.prog h tb 60 args K:=
 call_free hg (cs_FallDisk d hd left hl torn) rfl (.inl rfl) hk
end Go.Rx
