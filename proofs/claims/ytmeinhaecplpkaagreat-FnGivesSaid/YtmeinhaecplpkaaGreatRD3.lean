/-
  Part D3: lemmas on an evaluator over plain data of the model's code, plain laws on lists and numbers, or contracts of functions of the program; each lemma names its conditions.
-/
import Derived.Test.YtmeinhaecplpkaaGreatRD1
import Derived.Test.YtmeinhaecplpkaaGreatRP5

set_option linter.unusedSimpArgs false
set_option linter.unusedVariables false
namespace Go.Rx
open Go
attribute [local irreducible] Req Way WayG Sel callVC CallOK seqVC cVC loopVC nextK
@[go_sem] def hr266:Hints
 |0=> [0,1]|1=> [1,2,4]|2=> [1,2,4,6]|3=> [4,6,7]|4=> [4,6]|5=> [4,6,7]|6=> [4,6]|_=> []
@[go_sem] def hl266:Hints:=fun _=> []
attribute [go_sem] Go.Proofs.Tryz.results266
set_option maxRecDepth 100000 in
set_option maxHeartbeats 16000000 in
theorem cs_EndRead {ps:List GPair} {pg:List Int} {next:List GPair} {view:Int→List GPair} (s:GStore) (id:Int) (hi:StoreInv s ps pg next view):CallOK Go.Proofs.Tryz.prog 266 [.d (.agg s.cells),.d (.int .i64 id)] [] [.dead,.dead] (storeV (endReadF s id)) []:=by
 refine call_fr tysZOK mixedZ Go.Proofs.Tryz.func266 (by kernel_rfl) rfl (by kernel_rfl) hr266 hl266 (by simp [Go.Proofs.Tryz.ntmps266]) rfl ?_
 have hs:=hi.small
 have h3:=hi.few
 unfold storeV endReadF
 by_cases g1:idR s id<0
 ·have d1:=decide_eq_true g1
  rw [if_pos g1]
  simp -implicitDefEqProofs only [go_sem,d1,GStore.cells]
  repeat ((first|refine rq ?_|refine wy ?_|refine wn ?_|refine gy ?_|refine gn ?_|refine ks_l12Copy s hs (by simp -implicitDefEqProofs only [go_sem,GStore.cells_eq];first|done|rfl) ?_|refine ks_l12At s id hs.few (by simp -implicitDefEqProofs only [go_sem,GStore.cells_eq];first|done|rfl) ?_|fail);simp -implicitDefEqProofs only [go_sem,d1,GStore.cells])
  try rfl
 ·have d1:=decide_eq_false g1
  rw [if_neg g1]
  obtain ⟨k,r,hk,hr,_⟩:=idR_some (show 0≤idR s id by omega)
  have hkl:=(List.getElem?_eq_some_iff.1 hr).1
  rw [hk] at d1 ⊢
  have hk1:IntKind.i64.wrap ((k:Int)+1)=((k+1:Nat):Int):=wrap_succ (by simp only [LEN];omega)
  rw [Int.toNat_natCast]
  simp -implicitDefEqProofs only [go_sem,hk,d1,hk1,GStore.cells,GReaderS_take,GReaderS_drop,GReaderS_app]
  repeat ((first|refine rq ?_|refine wy ?_|refine wn ?_|refine gy ?_|refine gn ?_|refine ks_l12Copy s hs (by simp -implicitDefEqProofs only [go_sem,GStore.cells_eq];first|done|rfl) ?_|refine ks_l12At s id hs.few (by simp -implicitDefEqProofs only [go_sem,GStore.cells_eq];first|done|rfl) ?_|fail);simp -implicitDefEqProofs only [go_sem,hk,d1,hk1,GStore.cells,GReaderS_take,GReaderS_drop,GReaderS_app])
  have hkk:min k s.fReaders.length=k:=Nat.min_eq_left (by omega)
  simp only [List.take_length,List.length_take,List.length_drop,List.take_take,hkk,Nat.min_self]
  rw [List.take_of_length_le (by simp only [List.length_append,List.length_take,List.length_drop];omega)]
theorem ks_EndRead {h:Heap} {tb:Nat} {K:OK} {args:List V} {ps:List GPair} {pg:List Int} {next:List GPair} {view:Int→List GPair} (s:GStore) (id:Int) (hi:StoreInv s ps pg next view) (hg:toDs h args=some ([.agg s.cells,.int .i64 id],[]))
  (hk:K (renV (bk tb ([])) (storeV (endReadF s id))) (updN tb ([]) ([]))):callVC Go.Proofs.Tryz.prog h tb 266 args K:=
 call_free hg (cs_EndRead s id hi) rfl (.inl rfl) hk
@[go_sem] def hr265:Hints
 |0=> [0,1,2]|1=> [1,2,3]|2=> [2,3,8]|3=> []|4=> [2,3,8]|5=> [9,10]|6=> []|7=> [9]|_=> []
@[go_sem] def hl265:Hints:=fun _=> []
attribute [go_sem] Go.Proofs.Tryz.results265
set_option maxRecDepth 100000 in
set_option maxHeartbeats 16000000 in
theorem cs_ReaderGet {ps:List GPair} {pg:List Int} {next:List GPair} {view:Int→List GPair} (s:GStore) (id:Int) (key:Key) (hi:StoreInv s ps pg next view):CallOK Go.Proofs.Tryz.prog 265 [.d (.agg s.cells),.d (.int .i64 id),.d (.str key)] [] [.dead,.dead,.dead] (.tup [.d (.str (readerGetF s id key).1),.d (.int .i64 (readerGetF s id key).2)]) []:=by
 refine call_fr tysZOK mixedZ Go.Proofs.Tryz.func265 (by kernel_rfl) rfl (by kernel_rfl) hr265 hl265 (by simp [Go.Proofs.Tryz.ntmps265]) rfl ?_
 have hs:=hi.small
 unfold readerGetF
 by_cases g1:idR s id<0
 ·have d1:=decide_eq_true g1
  rw [if_pos g1]
  simp -implicitDefEqProofs only [go_sem,d1,GStore.cells]
  repeat ((first|refine rq ?_|refine wy ?_|refine wn ?_|refine gy ?_|refine gn ?_|refine ks_l12At s id hs.few (by simp -implicitDefEqProofs only [go_sem,GStore.cells_eq];first|done|rfl) ?_|fail);simp -implicitDefEqProofs only [go_sem,d1,GStore.cells])
  try rfl
 ·have d1:=decide_eq_false g1
  rw [if_neg g1]
  obtain ⟨k,r,hk,hr,_⟩:=idR_some (show 0≤idR s id by omega)
  have hkl:=(List.getElem?_eq_some_iff.1 hr).1
  rw [hk] at d1 ⊢
  have hg:s.fReaders.getD ((k:Int).toNat) GReader.zero=r:=by rw [Int.toNat_natCast,List.getD_eq_getElem?_getD,hr];rfl
  rw [hg]
  cases hgk:getW s.fDisk 8 r.fMeta.fRoot key with
  |none=>
   have hv:optV (getW s.fDisk 8 r.fMeta.fRoot key)= .tup [.d (.str []),.d (.bool false)]:=by rw [hgk];rfl
   simp -implicitDefEqProofs only [go_sem,hk,d1,hv,lget_GReaderS hr,GStore.cells]
   repeat ((first|refine rq ?_|refine wy ?_|refine wn ?_|refine gy ?_|refine gn ?_|refine ks_l12At s id hs.few (by simp -implicitDefEqProofs only [go_sem,GStore.cells_eq];first|done|rfl) ?_|refine ks_GetKey s.fDisk r.fMeta.fRoot key hs.disk.1 hs.disk.2 hs.page (by simp -implicitDefEqProofs only [go_sem,GDisk.cells_eq];first|done|rfl) ?_|fail);simp -implicitDefEqProofs only [go_sem,hk,d1,hv,lget_GReaderS hr,GStore.cells])
   try rfl
  |some v=>
   have hv:optV (getW s.fDisk 8 r.fMeta.fRoot key)= .tup [.d (.str v),.d (.bool true)]:=by rw [hgk];rfl
   simp -implicitDefEqProofs only [go_sem,hk,d1,hv,lget_GReaderS hr,GStore.cells]
   repeat ((first|refine rq ?_|refine wy ?_|refine wn ?_|refine gy ?_|refine gn ?_|refine ks_l12At s id hs.few (by simp -implicitDefEqProofs only [go_sem,GStore.cells_eq];first|done|rfl) ?_|refine ks_GetKey s.fDisk r.fMeta.fRoot key hs.disk.1 hs.disk.2 hs.page (by simp -implicitDefEqProofs only [go_sem,GDisk.cells_eq];first|done|rfl) ?_|fail);simp -implicitDefEqProofs only [go_sem,hk,d1,hv,lget_GReaderS hr,GStore.cells])
   try rfl
theorem ks_ReaderGet {h:Heap} {tb:Nat} {K:OK} {args:List V} {ps:List GPair} {pg:List Int} {next:List GPair} {view:Int→List GPair} (s:GStore) (id:Int) (key:Key) (hi:StoreInv s ps pg next view) (hg:toDs h args=some ([.agg s.cells,.int .i64 id,.str key],[]))
  (hk:K (renV (bk tb ([])) (.tup [.d (.str (readerGetF s id key).1),.d (.int .i64 (readerGetF s id key).2)])) (updN tb ([]) ([]))):callVC Go.Proofs.Tryz.prog h tb 265 args K:=
 call_free hg (cs_ReaderGet s id key hi) rfl (.inl rfl) hk
end Go.Rx
namespace Go.Rx
open Go
attribute [local irreducible] Req Way WayG Sel callVC CallOK seqVC cVC loopVC nextK
@[go_sem] def hr258:Hints
 |0=> [0]|1=> [1,2]|2=> [1,2,4]|3=> [2,4]|4=> [1,2,4]|5=> [2,4]|6=> [2,4]|7=> [2,4]|_=> []
@[go_sem] def hl258:Hints:=fun _=> []
attribute [go_sem] Go.Proofs.Tryz.results258
set_option maxRecDepth 100000 in
set_option maxHeartbeats 16000000 in
theorem cs_StartWrite {ps:List GPair} {pg:List Int} {next:List GPair} {view:Int→List GPair} (s:GStore) (hi:StoreInv s ps pg next view):CallOK Go.Proofs.Tryz.prog 258 [.d (.agg s.cells)] [] [.dead] (storeV (startWriteF s)) []:=by
 refine call_fr tysZOK mixedZ Go.Proofs.Tryz.func258 (by kernel_rfl) rfl (by kernel_rfl) hr258 hl258 (by simp [Go.Proofs.Tryz.ntmps258]) rfl ?_
 have hs:=hi.small
 have hf:=smallS_free hs
 unfold storeV startWriteF
 cases hw:s.fWriting
 ·rw [if_neg (by simp)]
  simp -implicitDefEqProofs only [go_sem,hw,GStore.cells,GTxn.cells]
  repeat ((first|refine rq ?_|refine wy ?_|refine wn ?_|refine gy ?_|refine gn ?_|refine ks_l12Copy s hs (by simp -implicitDefEqProofs only [go_sem,GStore.cells_eq,hw];first|done|rfl) ?_|refine ks_OldestOf s hs (by simp -implicitDefEqProofs only [go_sem,GStore.cells_eq,hw];first|done|rfl) ?_|refine ks_Begin s.fDisk s.fMeta (oldestOf s) hs.disk (smallGMeta_ok hs.mt) hf (by simp -implicitDefEqProofs only [go_sem,GDisk.cells_eq,GMeta.cells_eq];first|done|rfl) ?_|fail);simp -implicitDefEqProofs only [go_sem,hw,GStore.cells,GTxn.cells])
  try rfl
 ·rw [if_pos rfl]
  simp -implicitDefEqProofs only [go_sem,hw,GStore.cells]
  repeat ((first|refine rq ?_|refine wy ?_|refine wn ?_|refine gy ?_|refine gn ?_|refine ks_l12Copy s hs (by simp -implicitDefEqProofs only [go_sem,GStore.cells_eq,hw];first|done|rfl) ?_|fail);simp -implicitDefEqProofs only [go_sem,hw,GStore.cells])
  try rfl
theorem ks_StartWrite {h:Heap} {tb:Nat} {K:OK} {args:List V} {ps:List GPair} {pg:List Int} {next:List GPair} {view:Int→List GPair} (s:GStore) (hi:StoreInv s ps pg next view) (hg:toDs h args=some ([.agg s.cells],[]))
  (hk:K (renV (bk tb ([])) (storeV (startWriteF s))) (updN tb ([]) ([]))):callVC Go.Proofs.Tryz.prog h tb 258 args K:=
 call_free hg (cs_StartWrite s hi) rfl (.inl rfl) hk
end Go.Rx
