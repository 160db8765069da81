/-
  Part A3: lemmas on an evaluator over plain data of the model's code, plain laws on lists and numbers, or contracts of functions of the program; each lemma names its conditions.
-/
import Derived.Test.YtmeinhaecplpkaaGreatRA2

set_option linter.unusedSimpArgs false
set_option linter.unusedVariables false
namespace Go.Rx
open Go
attribute [local irreducible] Req Way WayG Sel callVC CallOK seqVC cVC loopVC nextK
@[go_sem] def hr213:Hints
 |0=> [0]|1=> [0]|_=> []
@[go_sem] def hl213:Hints:=fun _=> []
attribute [go_sem] Go.Proofs.Tryz.results213
set_option maxRecDepth 100000 in
set_option maxHeartbeats 16000000 in
theorem cs_Short (s:List UInt8) (hs:s.length≤4611686018427387904):CallOK Go.Proofs.Tryz.prog 213 [.d (.str s)] [] [.dead] (.d (.str (shortB s))) []:=by
 refine call_of tysZOK mixedZ Go.Proofs.Tryz.func213 (by kernel_rfl) rfl (np:=[false]) (by kernel_rfl) hr213 hl213 (by simp [Go.Proofs.Tryz.ntmps213]) ?_
 simp -implicitDefEqProofs only [go_sem]
 refine ks_varText s.length (by omega) rfl ?_
 have:=varB_len9 (n:=s.length) (by omega)
 simp -implicitDefEqProofs only [go_sem]
 repeat ((first|refine rq ?_|fail);simp -implicitDefEqProofs only [go_sem])
 rfl
theorem ks_Short {h:Heap} {tb:Nat} {K:OK} {args:List V} {ls:List Nat} (s:List UInt8) (hs:s.length≤4611686018427387904) (hg:toDs h args=some ([.str s],ls))
  (hk:K (renV (bk tb ([])) (.d (.str (shortB s)))) (updN tb ([]) ([]))):callVC Go.Proofs.Tryz.prog h tb 213 args K:=
 call_free hg (cs_Short s hs) rfl (.inr ⟨flat_of rfl,flatHB_of rfl⟩) hk
@[go_sem] def hr176:Hints
 |0=> [0]|1=> [0]|_=> []
@[go_sem] def hl176:Hints:=fun _=> []
attribute [go_sem] Go.Proofs.Tryz.results176
@[go_sem] def hr179:Hints
 |0=> [0]|1=> [0]|2=> []|3=> [0]|_=> []
@[go_sem] def hl179:Hints:=fun _=> []
attribute [go_sem] Go.Proofs.Tryz.results179
set_option maxRecDepth 100000 in
set_option maxHeartbeats 16000000 in
theorem cs_Sealed (t:List UInt8) (ht:t.length≤20000):CallOK Go.Proofs.Tryz.prog 179 [.d (.str t)] [] [.dead] (.tup [.d (.str (sealB t)),.d (.bool true)]) []:=by
 refine call_of tysZOK mixedZ Go.Proofs.Tryz.func179 (by kernel_rfl) rfl (np:=[false]) (by kernel_rfl) hr179 hl179 (by simp [Go.Proofs.Tryz.ntmps179]) ?_
 have h1:¬(20000:Int)<t.length:=by omega
 have d1:=decide_eq_false h1
 simp -implicitDefEqProofs only [go_sem,d1]
 repeat ((first|refine rq ?_|refine ks_SumOf t (by simp only [LEN];omega) rfl ?_|refine ks_Four (sumOf t) sumOf_lt rfl ?_|fail);simp -implicitDefEqProofs only [go_sem,d1,four_len])
 rfl
theorem ks_Sealed {h:Heap} {tb:Nat} {K:OK} {args:List V} {ls:List Nat} (t:List UInt8) (ht:t.length≤20000) (hg:toDs h args=some ([.str t],ls))
  (hk:K (renV (bk tb ([])) (.tup [.d (.str (sealB t)),.d (.bool true)])) (updN tb ([]) ([]))):callVC Go.Proofs.Tryz.prog h tb 179 args K:=
 call_free hg (cs_Sealed t ht) rfl (.inr ⟨flat_of rfl,flatHB_of rfl⟩) hk
@[go_sem] def hr177:Hints
 |0=> [0]|1=> [0]|2=> []|3=> [0]|_=> []
@[go_sem] def hl177:Hints:=fun _=> []
attribute [go_sem] Go.Proofs.Tryz.results177
@[go_sem] def hr118:Hints
 |0=> [0]|1=> [0]|2=> [0,4]|3=> []|4=> [0,4]|_=> []
@[go_sem] def hl118:Hints:=fun _=> []
attribute [go_sem] Go.Proofs.Tryz.results118
set_option maxRecDepth 100000 in
set_option maxHeartbeats 16000000 in
theorem cs_Unsealed (t:List UInt8) (ht:t.length≤4611686018427387904):CallOK Go.Proofs.Tryz.prog 118 [.d (.str t)] [] [.dead] (unV (unsealB t)) []:=by
 refine call_of tysZOK mixedZ Go.Proofs.Tryz.func118 (by kernel_rfl) rfl (np:=[false]) (by kernel_rfl) hr118 hl118 (by simp [Go.Proofs.Tryz.ntmps118]) ?_
 simp -implicitDefEqProofs only [go_sem]
 have e1:IntKind.i64.wrap ((t.length:Int) - 4)=(t.length:Int) - 4:=wrap_int (by omega) (by omega)
 rw [e1]
 by_cases h1:(t.length:Int) - 4<0
 ·have d1:=decide_eq_true h1
  simp -implicitDefEqProofs only [go_sem,d1]
  repeat ((first|refine rq ?_|fail);simp -implicitDefEqProofs only [go_sem,d1])
  rw [unsealB,if_neg (by omega)];rfl
 ·have d1:=decide_eq_false h1
  by_cases h2:20000<(t.length:Int) - 4
  ·have d2:=decide_eq_true h2
   simp -implicitDefEqProofs only [go_sem,d1,d2]
   repeat ((first|refine rq ?_|fail);simp -implicitDefEqProofs only [go_sem,d1,d2])
   rw [unsealB,if_neg (by omega)];rfl
  ·have d2:=decide_eq_false h2
   have e2:((t.length:Int) - 4).toNat=t.length - 4:=by omega
   simp -implicitDefEqProofs only [go_sem,d1,d2,e2]
   repeat ((first|refine rq ?_|refine ks_SumOf (t.take (t.length - 4)) (by simp only [List.length_take,LEN];omega) rfl ?_|refine ks_Four (sumOf (t.take (t.length - 4))) sumOf_lt rfl ?_|fail);simp -implicitDefEqProofs only [go_sem,d1,d2,e2,List.take_length])
   (first|(refine way_dec (fun h3=>?_) (fun h3=>?_))|(refine way_ndec (fun h3=>?_) (fun h3=>?_))|(refine wayT_dec (fun h3=>?_) (fun h3=>?_))|(refine wayF_dec (fun h3=>?_) (fun h3=>?_))|(refine wayT_ndec (fun h3=>?_) (fun h3=>?_))|(refine wayF_ndec (fun h3=>?_) (fun h3=>?_))|(refine way_not (fun h3=>?_) (fun h3=>?_))|(refine way (fun h3=>?_) (fun h3=>?_))|(refine wayT (fun h3=>?_) (fun h3=>?_))|(refine wayF (fun h3=>?_) (fun h3=>?_)))
   ·simp -implicitDefEqProofs only [go_sem]
    rw [unsealB,if_neg (fun h=>h3 h.2.2)];rfl
   ·simp -implicitDefEqProofs only [go_sem]
    repeat ((first|refine rq ?_|fail);simp -implicitDefEqProofs only [go_sem,e2])
    rw [unsealB,if_pos ⟨by omega,by omega,h3⟩];rfl
theorem ks_Unsealed {h:Heap} {tb:Nat} {K:OK} {args:List V} {ls:List Nat} (t:List UInt8) (ht:t.length≤4611686018427387904) (hg:toDs h args=some ([.str t],ls)) (hfl:FlatV (unV (unsealB t))∧FlatH ([]))
  (hk:K (renV (bk tb ([])) (unV (unsealB t))) (updN tb ([]) ([]))):callVC Go.Proofs.Tryz.prog h tb 118 args K:=
 call_free hg (cs_Unsealed t ht) rfl (.inr hfl) hk
def entB (n:GNode) (k:Nat):List UInt8:=(if n.fLeaf=true then (n.fKeys.zip n.fVals).take k|>.flatMap lent else (n.fKeys.zip n.fKids).take k|>.flatMap bent)
def headB (n:GNode):List UInt8:=(if n.fLeaf=true then 108 else 98)::varB n.fKeys.length
theorem entB_zero {n:GNode}:headB n++entB n 0=headB n:=by unfold entB;split<;>simp
theorem entB_all {n:GNode} (hn:nodeOk n) {k:Nat} (hk:n.fKeys.length≤k):headB n++entB n k=nodeBytes n:=by
 unfold entB nodeBytes headB
 split
 ·rw [List.take_of_length_le (by simp;omega)];rfl
 ·rw [List.take_of_length_le (by simp;omega)];rfl
theorem entB_leaf {n:GNode} (hl:n.fLeaf=true) {i:Nat} {p q:List UInt8} (hp:n.fKeys[i]? =some p) (hq:n.fVals[i]? =some q):entB n (i+1)=entB n i++(shortB p++shortB q):=by
 unfold entB;rw [if_pos hl,if_pos hl,take_snoc (zip_at hp hq)];simp [lent]
theorem entB_branch {n:GNode} (hl:n.fLeaf=false) {i:Nat} {p:List UInt8} {q:Int} (hp:n.fKeys[i]? =some p) (hq:n.fKids[i]? =some q):entB n (i+1)=entB n i++(shortB p++varB q.toNat):=by
 unfold entB;rw [if_neg (by simp [hl]),if_neg (by simp [hl]),take_snoc (zip_at hp hq)];simp [bent]
theorem flatMap_take {α:Type} {l:List α} {f:α→List UInt8} {i m:Nat} (h:i≤m):((l.take i).flatMap f).length≤((l.take m).flatMap f).length:=by
 have e:l.take m=l.take i++(l.take m).drop i:=by
  conv=>lhs;rw [←List.take_append_drop i (l.take m)]
  rw [List.take_take,Nat.min_eq_left h]
 rw [e,List.flatMap_append,List.length_append];omega
theorem entB_len {n:GNode} (hn:nodeOk n) {i:Nat}:(headB n++entB n i).length≤202:=by
 have h1:=nodeBytes_len hn
 have h2:=entB_all hn (Nat.le_refl _)
 by_cases hi:n.fKeys.length≤i
 ·rw [entB_all hn hi];exact h1
 ·rw [←h2] at h1
  refine Nat.le_trans ?_ h1
  simp only [List.length_append]
  refine Nat.add_le_add_left ?_ _
  unfold entB
  split
  ·exact flatMap_take (by omega)
  ·exact flatMap_take (by omega)
@[go_sem] def hr180:Hints
 |0=> [0]|1=> [1]|2=> [1,3]|3=> [1]|4=> [1,3]|5=> [1,3]|6=> [1,3,4]|7=> [1,3,4]|8=> [1,3,4]|9=> [1,3,4]|10=> [1,3,4]|11=> [1,3,4]|12=> [3]|_=> []
@[go_sem] def hl180:Hints
 |6=> [1,3,4]|_=> []
attribute [go_sem] Go.Proofs.Tryz.results180
set_option maxRecDepth 100000 in
set_option maxHeartbeats 16000000 in
theorem cs_Bytes (n:GNode) (hn:nodeOk n):CallOK Go.Proofs.Tryz.prog 180 [.d (.agg n.cells)] [] [.dead] (.d (.str (nodeBytes n))) []:=by
 refine call_of tysZOK mixedZ Go.Proofs.Tryz.func180 (by kernel_rfl) rfl (np:=[false]) (by kernel_rfl) hr180 hl180 (by simp [Go.Proofs.Tryz.ntmps180]) ?_
 have hk:n.fKeys.length≤4:=hn.2.1
 have hv1:=varB_len1 (n:=n.fKeys.length) (by omega)
 have hkl:=hn.2.2.2.1
 simp -implicitDefEqProofs only [go_sem,GNode.cells]
 cases hl:n.fLeaf
 ·have hiff:=(nodeOk_branch hl).1 hn
  simp -implicitDefEqProofs only [go_sem]
  repeat ((first|refine rq ?_|refine ks_varText n.fKeys.length (by omega) rfl ?_|fail);simp -implicitDefEqProofs only [go_sem])
  have hh:headB n=98::varB n.fKeys.length:=by simp [headB,hl]
  refine loop_data (α:=Nat) (fun i=>⟨[(1,.ref 0 0),(3,.d (.str (headB n++entB n i))),(4,.d (.int .i64 i))],[(0,some (.box [.d (.bool false),.d (.sl (strs n.fKeys)),.d (.sl (strs n.fVals)),.d (.sl (ints n.fKids))]))]⟩)
   (fun i=>i≤n.fKeys.length) (fun i=>n.fKeys.length - i) 0 (by rw [entB_zero,hh];rfl) (Nat.zero_le _) ?_
  rintro i i1
  have hb:=entB_len hn (i:=i)
  simp only [List.length_append] at hb
  simp -implicitDefEqProofs only [go_sem]
  (first|(refine way_dec (fun h5=>?_) (fun h5=>?_))|(refine way_ndec (fun h5=>?_) (fun h5=>?_))|(refine wayT_dec (fun h5=>?_) (fun h5=>?_))|(refine wayF_dec (fun h5=>?_) (fun h5=>?_))|(refine wayT_ndec (fun h5=>?_) (fun h5=>?_))|(refine wayF_ndec (fun h5=>?_) (fun h5=>?_))|(refine way_not (fun h5=>?_) (fun h5=>?_))|(refine way (fun h5=>?_) (fun h5=>?_))|(refine wayT (fun h5=>?_) (fun h5=>?_))|(refine wayF (fun h5=>?_) (fun h5=>?_)))
  ·obtain ⟨p,hp⟩:=some_at h5
   obtain ⟨q,hq⟩:=some_at (l:=n.fKids) (i:=i) (by omega)
   have hpl:=hkl p (List.mem_of_getElem? hp)
   have hql:=hiff.2.2.2.2.2.1 q (List.mem_of_getElem? hq)
   have hs:=shortB_len hpl
   have hb2:=entB_len hn (i:=i+1)
   rw [entB_branch hl hp hq,←List.append_assoc,←List.append_assoc,List.length_append,List.length_append,List.length_append] at hb2
   obtain ⟨q,rfl⟩:=Int.eq_ofNat_of_zero_le (show 0≤q by omega)
   rw [Int.toNat_natCast] at hb2
   simp -implicitDefEqProofs only [go_sem,lget_strs hp,lget_ints hq]
   repeat ((first|refine rq ?_|refine ks_Short p (by omega) rfl ?_|refine ks_varText q (by omega) rfl ?_|fail);simp -implicitDefEqProofs only [go_sem,lget_strs hp,lget_ints hq])
   rw [wrap_succ (by simp only [LEN];omega)]
   refine next_data (i+1) ?_ (by omega) (by omega)
   rw [entB_branch hl hp hq];simp
  ·simp -implicitDefEqProofs only [go_sem]
   rw [entB_all hn (by omega)]
 ·have hiff:=(nodeOk_leaf hl).1 hn
  simp -implicitDefEqProofs only [go_sem]
  repeat ((first|refine rq ?_|refine ks_varText n.fKeys.length (by omega) rfl ?_|fail);simp -implicitDefEqProofs only [go_sem])
  have hh:headB n=108::varB n.fKeys.length:=by simp [headB,hl]
  refine loop_data (α:=Nat) (fun i=>⟨[(1,.ref 0 0),(3,.d (.str (headB n++entB n i))),(4,.d (.int .i64 i))],[(0,some (.box [.d (.bool true),.d (.sl (strs n.fKeys)),.d (.sl (strs n.fVals)),.d (.sl (ints n.fKids))]))]⟩)
   (fun i=>i≤n.fKeys.length) (fun i=>n.fKeys.length - i) 0 (by rw [entB_zero,hh];rfl) (Nat.zero_le _) ?_
  rintro i i1
  have hb:=entB_len hn (i:=i)
  simp only [List.length_append] at hb
  simp -implicitDefEqProofs only [go_sem]
  (first|(refine way_dec (fun h5=>?_) (fun h5=>?_))|(refine way_ndec (fun h5=>?_) (fun h5=>?_))|(refine wayT_dec (fun h5=>?_) (fun h5=>?_))|(refine wayF_dec (fun h5=>?_) (fun h5=>?_))|(refine wayT_ndec (fun h5=>?_) (fun h5=>?_))|(refine wayF_ndec (fun h5=>?_) (fun h5=>?_))|(refine way_not (fun h5=>?_) (fun h5=>?_))|(refine way (fun h5=>?_) (fun h5=>?_))|(refine wayT (fun h5=>?_) (fun h5=>?_))|(refine wayF (fun h5=>?_) (fun h5=>?_)))
  ·obtain ⟨p,hp⟩:=some_at h5
   obtain ⟨q,hq⟩:=some_at (l:=n.fVals) (i:=i) (by omega)
   have hpl:=hkl p (List.mem_of_getElem? hp)
   have hql:=hiff.2.2.2.2.1 q (List.mem_of_getElem? hq)
   have hs:=shortB_len hpl
   have hb2:=entB_len hn (i:=i+1)
   rw [entB_leaf hl hp hq,←List.append_assoc,←List.append_assoc,List.length_append,List.length_append,List.length_append] at hb2
   simp -implicitDefEqProofs only [go_sem,lget_strs hp,lget_strs hq]
   repeat ((first|refine rq ?_|refine ks_Short p (by omega) rfl ?_|refine ks_Short q (by omega) rfl ?_|fail);simp -implicitDefEqProofs only [go_sem,lget_strs hp,lget_strs hq])
   rw [wrap_succ (by simp only [LEN];omega)]
   refine next_data (i+1) ?_ (by omega) (by omega)
   rw [entB_leaf hl hp hq];simp
  ·simp -implicitDefEqProofs only [go_sem]
   rw [entB_all hn (by omega)]
theorem ks_Bytes {h:Heap} {tb:Nat} {K:OK} {args:List V} {ls:List Nat} (n:GNode) (hn:nodeOk n) (hg:toDs h args=some ([.agg n.cells],ls))
  (hk:K (renV (bk tb ([])) (.d (.str (nodeBytes n)))) (updN tb ([]) ([]))):callVC Go.Proofs.Tryz.prog h tb 180 args K:=
 call_free hg (cs_Bytes n hn) rfl (.inr ⟨flat_of rfl,flatHB_of rfl⟩) hk
def textV (n:GNode):V:= .tup [.d (.str (if nodeOk n then nodeText n else [])),.d (.bool (decide (nodeOk n)))]
@[go_sem] def hr115:Hints
 |0=> [0]|1=> [1]|2=> []|3=> [1]|_=> []
@[go_sem] def hl115:Hints:=fun _=> []
attribute [go_sem] Go.Proofs.Tryz.results115
set_option maxRecDepth 100000 in
set_option maxHeartbeats 16000000 in
theorem cs_NodeText (n:GNode) (h1:n.fKeys.length≤LEN) (h2:n.fVals.length≤LEN) (h3:n.fKids.length≤LEN):CallOK Go.Proofs.Tryz.prog 115 [.d (.agg n.cells)] [] [.dead] (textV n) []:=by
 refine call_of tysZOK mixedZ Go.Proofs.Tryz.func115 (by kernel_rfl) rfl (np:=[false]) (by kernel_rfl) hr115 hl115 (by simp [Go.Proofs.Tryz.ntmps115]) ?_
 simp -implicitDefEqProofs only [go_sem,GNode.cells]
 refine ks_NodeOk n h1 h2 h3 rfl ?_
 simp -implicitDefEqProofs only [go_sem]
 (first|(refine way_dec (fun h5=>?_) (fun h5=>?_))|(refine way_ndec (fun h5=>?_) (fun h5=>?_))|(refine wayT_dec (fun h5=>?_) (fun h5=>?_))|(refine wayF_dec (fun h5=>?_) (fun h5=>?_))|(refine wayT_ndec (fun h5=>?_) (fun h5=>?_))|(refine wayF_ndec (fun h5=>?_) (fun h5=>?_))|(refine way_not (fun h5=>?_) (fun h5=>?_))|(refine way (fun h5=>?_) (fun h5=>?_))|(refine wayT (fun h5=>?_) (fun h5=>?_))|(refine wayF (fun h5=>?_) (fun h5=>?_)))
 ·simp -implicitDefEqProofs only [go_sem]
  rw [textV,if_neg h5,decide_eq_false h5]
 ·have hb:=nodeBytes_len h5
  simp -implicitDefEqProofs only [go_sem]
  refine ks_Bytes n h5 rfl ?_
  simp -implicitDefEqProofs only [go_sem]
  refine ks_Sealed (nodeBytes n) (by omega) rfl ?_
  simp -implicitDefEqProofs only [go_sem]
  rw [textV,if_pos h5,decide_eq_true h5];rfl
theorem ks_NodeText {h:Heap} {tb:Nat} {K:OK} {args:List V} {ls:List Nat} (n:GNode) (h1:n.fKeys.length≤LEN) (h2:n.fVals.length≤LEN) (h3:n.fKids.length≤LEN) (hg:toDs h args=some ([.agg n.cells],ls))
  (hk:K (renV (bk tb ([])) (textV n)) (updN tb ([]) ([]))):callVC Go.Proofs.Tryz.prog h tb 115 args K:=
 call_free hg (cs_NodeText n h1 h2 h3) rfl (.inr ⟨flat_of rfl,flatHB_of rfl⟩) hk
end Go.Rx
namespace Go.Rx
open Go
attribute [local irreducible] Req Way WayG Sel callVC CallOK seqVC cVC loopVC nextK
@[go_sem] def hr119:Hints
 |0=> [0]|1=> [0]|2=> [0,3,4,5]|3=> [0]|4=> [0]|5=> [0,3,4]|6=> [0,3]|_=> []
@[go_sem] def hl119:Hints:=fun _=> []
attribute [go_sem] Go.Proofs.Tryz.results119
set_option maxRecDepth 100000 in
set_option maxHeartbeats 16000000 in
theorem cs_num (t:List UInt8) (r:Nat×Bool) (ht:t.length≤4611686018427387904):CallOK Go.Proofs.Tryz.prog 119 [.ref 0 0] [(0,.box [.d (.str t),.d (.int .i64 r.1),.d (.bool r.2)])] [.ref 0 0] (.d (.int .i64 (rdV t 1000000000 r).1)) [(0,.box [.d (.str t),.d (.int .i64 (rdV t 1000000000 r).2.1),.d (.bool (rdV t 1000000000 r).2.2)])]:=by
 refine call_of tysZOK mixedZ Go.Proofs.Tryz.func119 (by kernel_rfl) rfl (np:=[true]) (by kernel_rfl) hr119 hl119 (by simp [Go.Proofs.Tryz.ntmps119]) ?_
 simp -implicitDefEqProofs only [go_sem]
 refine ks_ReadVar t r.1 ht rfl ⟨flat_rvV,flatH_nil⟩ ?_
 rw [rdV]
 obtain ⟨a,b⟩:=r
 cases hv:readVar t (a:Int) with
 |none=>
  simp only [rvV]
  simp -implicitDefEqProofs only [go_sem]
  repeat ((first|refine rq ?_|fail);simp -implicitDefEqProofs only [go_sem])
  cases b
  ·simp -implicitDefEqProofs only [go_sem]
   rfl
  ·simp -implicitDefEqProofs only [go_sem]
   rfl
 |some p=>
  obtain ⟨n,c⟩:=p
  have hb:=(readVar_lt hv).1
  simp only [rvV]
  simp -implicitDefEqProofs only [go_sem]
  repeat ((first|refine rq ?_|fail);simp -implicitDefEqProofs only [go_sem])
  cases b
  ·simp -implicitDefEqProofs only [go_sem]
   rw [if_neg (fun h=>h.elim (fun h=>by cases h) (by omega))]
  ·simp -implicitDefEqProofs only [go_sem]
   simp
theorem ks_num {h:Heap} {tb:Nat} {K:OK} {n0:Nat} {rest:List V} {ls:List Nat} (t:List UInt8) (r:Nat×Bool) (ht:t.length≤4611686018427387904) (hn:h n0=some (.box [.d (.str t),.d (.int .i64 r.1),.d (.bool r.2)])) (hro:refO h n0=[n0]) (hr:toDs h rest=some ([],ls)) (hnl:(ls:List Nat).contains n0=false)
  (hk:K (renV (bx n0 tb [(0,.box [.d (.str t),.d (.int .i64 (rdV t 1000000000 r).2.1),.d (.bool (rdV t 1000000000 r).2.2)])]) (.d (.int .i64 (rdV t 1000000000 r).1))) ((bif false then (ls:List Nat).map (·,none) else [])++(n0,none)::updX n0 tb [(0,.box [.d (.str t),.d (.int .i64 (rdV t 1000000000 r).2.1),.d (.bool (rdV t 1000000000 r).2.2)])] [(0,.box [.d (.str t),.d (.int .i64 (rdV t 1000000000 r).2.1),.d (.bool (rdV t 1000000000 r).2.2)])])):callVC Go.Proofs.Tryz.prog h tb 119 (.ref n0 0::rest) K:=
 call_box_ false hn hro rfl hr hnl (cs_num t r ht) rfl rfl (.inr (.inr ⟨flat_of rfl,flatHB_of rfl⟩)) hk
@[go_sem] def hr120:Hints
 |0=> [0]|1=> [0]|2=> [0,3,4,5]|3=> [0]|4=> [0]|5=> [0,3,4]|6=> [0,3]|_=> []
@[go_sem] def hl120:Hints:=fun _=> []
attribute [go_sem] Go.Proofs.Tryz.results120
set_option maxRecDepth 100000 in
set_option maxHeartbeats 16000000 in
theorem cs_text (t:List UInt8) (r:Nat×Bool) (ht:t.length≤4611686018427387904):CallOK Go.Proofs.Tryz.prog 120 [.ref 0 0] [(0,.box [.d (.str t),.d (.int .i64 r.1),.d (.bool r.2)])] [.ref 0 0] (.d (.str (rdT t r).1)) [(0,.box [.d (.str t),.d (.int .i64 (rdT t r).2.1),.d (.bool (rdT t r).2.2)])]:=by
 refine call_of tysZOK mixedZ Go.Proofs.Tryz.func120 (by kernel_rfl) rfl (np:=[true]) (by kernel_rfl) hr120 hl120 (by simp [Go.Proofs.Tryz.ntmps120]) ?_
 simp -implicitDefEqProofs only [go_sem]
 refine ks_ReadShort t r.1 ht rfl ⟨flat_rsV,flatH_nil⟩ ?_
 rw [rdT]
 obtain ⟨a,b⟩:=r
 cases hv:readShort t (a:Int) with
 |none=>
  simp only [rsV]
  simp -implicitDefEqProofs only [go_sem]
  repeat ((first|refine rq ?_|fail);simp -implicitDefEqProofs only [go_sem])
  cases b
  ·simp -implicitDefEqProofs only [go_sem]
  ·simp -implicitDefEqProofs only [go_sem]
 |some p=>
  obtain ⟨n,c⟩:=p
  simp only [rsV]
  simp -implicitDefEqProofs only [go_sem]
  repeat ((first|refine rq ?_|fail);simp -implicitDefEqProofs only [go_sem])
  cases b
  ·simp -implicitDefEqProofs only [go_sem]
   simp
  ·simp -implicitDefEqProofs only [go_sem]
   simp
theorem ks_text {h:Heap} {tb:Nat} {K:OK} {n0:Nat} {rest:List V} {ls:List Nat} (t:List UInt8) (r:Nat×Bool) (ht:t.length≤4611686018427387904) (hn:h n0=some (.box [.d (.str t),.d (.int .i64 r.1),.d (.bool r.2)])) (hro:refO h n0=[n0]) (hr:toDs h rest=some ([],ls)) (hnl:(ls:List Nat).contains n0=false)
  (hk:K (renV (bx n0 tb [(0,.box [.d (.str t),.d (.int .i64 (rdT t r).2.1),.d (.bool (rdT t r).2.2)])]) (.d (.str (rdT t r).1))) ((bif false then (ls:List Nat).map (·,none) else [])++(n0,none)::updX n0 tb [(0,.box [.d (.str t),.d (.int .i64 (rdT t r).2.1),.d (.bool (rdT t r).2.2)])] [(0,.box [.d (.str t),.d (.int .i64 (rdT t r).2.1),.d (.bool (rdT t r).2.2)])])):callVC Go.Proofs.Tryz.prog h tb 120 (.ref n0 0::rest) K:=
 call_box_ false hn hro rfl hr hnl (cs_text t r ht) rfl rfl (.inr (.inr ⟨flat_of rfl,flatHB_of rfl⟩)) hk
@[go_sem] def hr46:Hints
 |0=> [0]|1=> [0,2]|2=> [0,2,4,5]|3=> [2]|4=> [0,2,4]|5=> [0,2,4,6]|6=> [0,2,6,7]|7=> [0,2,6,7,8]|8=> [0,2,6,7,8,9]|9=> [0,2,6,7,8,9]|10=> [0,2,6,7,8,9]|11=> [0,2,6,7,8,9]|12=> [0,2,6,7,8,9]|13=> [0,2,6,7,8,9]|14=> [0,2,6,7]|15=> [0,2,6,7,10,11]|16=> [2]|17=> [2,7]|_=> []
@[go_sem] def hl46:Hints
 |8=> [0,2,6,7,8,9]|_=> []
attribute [go_sem] Go.Proofs.Tryz.results46
set_option maxRecDepth 100000 in
set_option maxHeartbeats 16000000 in
theorem cs_ReadNode (t : List UInt8) (ht : t.length ≤ 4611686018427387904) : CallOK Go.Proofs.Tryz.prog 46 [.d (.str t)] [] [.dead] (nodeV (readNode t)) [] := by
  refine call_fr tysZOK mixedZ Go.Proofs.Tryz.func46 (by kernel_rfl) rfl (by kernel_rfl) hr46 hl46 (by simp [Go.Proofs.Tryz.ntmps46]) rfl ?_
  simp -implicitDefEqProofs only [go_sem]
  refine ks_Unsealed t ht rfl ⟨flat_unV, flatH_nil⟩ ?_
  cases hu : unsealB t with
  | none =>
    rw [readNode_none hu]
    simp only [unV]
    simp -implicitDefEqProofs only [go_sem]
    rfl
  | some s =>
    have hs : s.length ≤ 20000 := (unseal_iff.1 hu).1
    simp only [unV]
    by_cases hs2 : (s.length : Int) < 2
    · have d2 := decide_eq_true hs2
      rw [readNode_short hu (by omega)]
      simp -implicitDefEqProofs only [go_sem, d2]
      rfl
    · have d2 := decide_eq_false hs2
      match s, hu, hs, hs2, d2 with
      | [], _, _, h, _ => simp at h
      | c :: b, hu, hs, hs2, d2' =>
        have d2 : decide (((b.length + 1 : Nat) : Int) < 2) = false := d2'
        have hg : (c :: b).getD 0 0 = c := rfl
        have hr0 : (decide (((c.toNat : Nat) : Int) = 108)) = decide (c = 108) := decide_eq_decide.2 ⟨fun h => u8_eq.1 ((show c.toNat = 108 by omega).trans rfl), fun h => by subst h; rfl⟩
        rw [loose_eq hu]
        have hst : (1 : Nat) ≤ (c :: b).length := by simp
        have hle1 := rdV_le (t := c :: b) (m := 1000000000) (r := (1, false)) hst
        by_cases hc : c = 108
        · have dc := decide_eq_true hc
          rw [loose_leaf hc]
          simp -implicitDefEqProofs only [go_sem, d2, hg, hr0, dc]
          repeat ((first | refine rq ?_ | refine ks_num (c :: b) (1, false) (by omega) rfl rfl rfl rfl ?_ | fail); simp -implicitDefEqProofs only [go_sem, d2, hg, hr0, dc])
          generalize hkr : rdV (c :: b) 1000000000 (1, false) = kr at hle1 ⊢
          obtain ⟨k, r1⟩ := kr
          simp only at hle1 ⊢
          refine loop_data (α := Nat × List (List UInt8 × List UInt8) × (Nat × Bool)) (fun x => ⟨[(0, .d (.str t)), (2, .ref 0 0), (6, .ref 4 0), (7, .ref 5 0), (8, .d (.int .i64 k)), (9, .d (.int .i64 x.1))],
              [(0, some (.box [.d (.bool false), .own 1 0 0, .own 2 0 0, .own 3 0 0])), (1, some (.arr 1 [])), (2, some (.arr 1 [])), (3, some (.arr 1 [])),
               (4, some (.box [.d (.str (c :: b)), .d (.int .i64 x.2.2.1), .d (.bool x.2.2.2)])),
               (5, some (.box [.d (.bool true), .own 6 0 (x.2.1.map (·.1)).length, .own 7 0 (x.2.1.map (·.2)).length, .own 8 0 0])), (6, some (.arr 1 (strs (x.2.1.map (·.1))))), (7, some (.arr 1 (strs (x.2.1.map (·.2))))), (8, some (.arr 1 []))]⟩)
            (fun x => x.1 ≤ min k 10 ∧ x.2 = rdLs (c :: b) x.1 r1) (fun x => 10 - x.1) (0, [], r1) rfl ⟨Nat.zero_le _, rfl⟩ ?_
          rintro ⟨i, es, r⟩ ⟨i1, i2⟩
          simp only at i1 i2
          have hlen : es.length = i := by have := rdLs_len (t := c :: b) (k := i) (r := r1); rw [← i2] at this; exact this
          have hbig : r.2 = true → (rdLs (c :: b) (min k 10) r1).2.2 = true := fun h => sfx_none.1 (rdLs_badle hle1 i1 (sfx_none.2 ((congrArg (fun q => q.2.2) i2).symm.trans h)))
          by_cases g1 : (i : Int) < k
          · have d3 := decide_eq_true g1
            by_cases g2 : (i : Int) < 10
            · have d4 := decide_eq_true g2
              cases g3 : r.2
              · simp -implicitDefEqProofs only [go_sem, d3, d4, g3]
                obtain ⟨ra, rb⟩ := r
                simp only at g3
                subst g3
                repeat ((first | refine rq ?_ | refine ks_text (c :: b) (ra, false) (by omega) rfl rfl rfl rfl ?_ | refine ks_text (c :: b) (rdT (c :: b) (ra, false)).2 (by omega) rfl rfl rfl rfl ?_ | fail); simp -implicitDefEqProofs only [go_sem, d3, d4])
                refine next_data (i + 1, es ++ [(rdL (c :: b) (ra, false)).1], (rdL (c :: b) (ra, false)).2) ?_ ⟨?_, ?_⟩ ?_
                · rw [wrap_succ (by simp only [LEN]; omega)]
                  simp [rdL]
                · simp only; omega
                · simp only; rw [rdLs_snoc, ← i2]
                · simp only; omega
              · have hend : i = min k 10 ∨ r.2 = true := .inr g3
                simp -implicitDefEqProofs only [go_sem, d3, d4, g3]
                refine ks_NodeText (leafOf es) (by simp [leafOf, LEN]; omega) (by simp [leafOf, LEN]; omega) (by simp [leafOf, LEN]) (ls := [6, 7, 8]) (by simp -implicitDefEqProofs only [go_sem]; first | done | rfl) ?_
                simp only [textV]
                simp -implicitDefEqProofs only [go_sem, g3]
                rw [if_pos (hbig g3)]
                rfl
            · have d4 := decide_eq_false g2
              have hend : i = min k 10 ∨ r.2 = true := .inl (by omega)
              simp -implicitDefEqProofs only [go_sem, d3, d4]
              refine ks_NodeText (leafOf es) (by simp [leafOf, LEN]; omega) (by simp [leafOf, LEN]; omega) (by simp [leafOf, LEN]) (ls := [6, 7, 8]) (by simp -implicitDefEqProofs only [go_sem]; first | done | rfl) ?_
              simp only [textV]
              simp -implicitDefEqProofs only [go_sem]
              cases hb : r.2
              · have hfin := hend.resolve_right (by rw [hb]; simp)
                rw [← hfin, ← i2, if_neg (c := r.2 = true) (by simp [hb])]
                by_cases hn : nodeOk (leafOf es)
                · have dn := decide_eq_true hn
                  rw [if_pos hn]
                  by_cases ht' : nodeText (leafOf es) = t
                  · have dt := decide_eq_true ht'
                    simp -implicitDefEqProofs only [go_sem, dn, dt]
                    try simp only
                    rw [if_pos ⟨hn, ht'⟩]; rfl
                  · have dt := decide_eq_false ht'
                    simp -implicitDefEqProofs only [go_sem, dn, dt]
                    try simp only
                    rw [if_neg (fun h => ht' h.2)]; rfl
                · have dn := decide_eq_false hn
                  simp -implicitDefEqProofs only [go_sem, dn]
                  try simp only
                  rw [if_neg (fun h => hn h.1)]; rfl
              · rw [if_pos (hbig hb)]
                simp -implicitDefEqProofs only [go_sem]
                rfl
          · have d3 := decide_eq_false g1
            have hend : i = min k 10 ∨ r.2 = true := .inl (by omega)
            simp -implicitDefEqProofs only [go_sem, d3]
            refine ks_NodeText (leafOf es) (by simp [leafOf, LEN]; omega) (by simp [leafOf, LEN]; omega) (by simp [leafOf, LEN]) (ls := [6, 7, 8]) (by simp -implicitDefEqProofs only [go_sem]; first | done | rfl) ?_
            simp only [textV]
            simp -implicitDefEqProofs only [go_sem]
            cases hb : r.2
            · have hfin := hend.resolve_right (by rw [hb]; simp)
              rw [← hfin, ← i2, if_neg (c := r.2 = true) (by simp [hb])]
              by_cases hn : nodeOk (leafOf es)
              · have dn := decide_eq_true hn
                rw [if_pos hn]
                by_cases ht' : nodeText (leafOf es) = t
                · have dt := decide_eq_true ht'
                  simp -implicitDefEqProofs only [go_sem, dn, dt]
                  try simp only
                  rw [if_pos ⟨hn, ht'⟩]; rfl
                · have dt := decide_eq_false ht'
                  simp -implicitDefEqProofs only [go_sem, dn, dt]
                  try simp only
                  rw [if_neg (fun h => ht' h.2)]; rfl
              · have dn := decide_eq_false hn
                simp -implicitDefEqProofs only [go_sem, dn]
                try simp only
                rw [if_neg (fun h => hn h.1)]; rfl
            · rw [if_pos (hbig hb)]
              simp -implicitDefEqProofs only [go_sem]
              rfl
        · have dc := decide_eq_false hc
          rw [loose_branch hc]
          simp -implicitDefEqProofs only [go_sem, d2, hg, hr0, dc]
          repeat ((first | refine rq ?_ | refine ks_num (c :: b) (1, false) (by omega) rfl rfl rfl rfl ?_ | fail); simp -implicitDefEqProofs only [go_sem, d2, hg, hr0, dc])
          generalize hkr : rdV (c :: b) 1000000000 (1, false) = kr at hle1 ⊢
          obtain ⟨k, r1⟩ := kr
          simp only at hle1 ⊢
          refine loop_data (α := Nat × List (List UInt8 × Int) × (Nat × Bool)) (fun x => ⟨[(0, .d (.str t)), (2, .ref 0 0), (6, .ref 4 0), (7, .ref 5 0), (8, .d (.int .i64 k)), (9, .d (.int .i64 x.1))],
              [(0, some (.box [.d (.bool false), .own 1 0 0, .own 2 0 0, .own 3 0 0])), (1, some (.arr 1 [])), (2, some (.arr 1 [])), (3, some (.arr 1 [])),
               (4, some (.box [.d (.str (c :: b)), .d (.int .i64 x.2.2.1), .d (.bool x.2.2.2)])),
               (5, some (.box [.d (.bool false), .own 6 0 (x.2.1.map (·.1)).length, .own 7 0 0, .own 8 0 (x.2.1.map (·.2)).length])), (6, some (.arr 1 (strs (x.2.1.map (·.1))))), (7, some (.arr 1 [])), (8, some (.arr 1 (ints (x.2.1.map (·.2)))))]⟩)
            (fun x => x.1 ≤ min k 10 ∧ x.2 = rdBs (c :: b) 1000000000 x.1 r1) (fun x => 10 - x.1) (0, [], r1) rfl ⟨Nat.zero_le _, rfl⟩ ?_
          rintro ⟨i, es, r⟩ ⟨i1, i2⟩
          simp only at i1 i2
          have hlen : es.length = i := by have := rdBs_len (t := c :: b) (most := 1000000000) (k := i) (r := r1); rw [← i2] at this; exact this
          have hbig : r.2 = true → (rdBs (c :: b) 1000000000 (min k 10) r1).2.2 = true := fun h => sfx_none.1 (rdBs_badle (most := 1000000000) hle1 i1 (sfx_none.2 ((congrArg (fun q => q.2.2) i2).symm.trans h)))
          by_cases g1 : (i : Int) < k
          · have d3 := decide_eq_true g1
            by_cases g2 : (i : Int) < 10
            · have d4 := decide_eq_true g2
              cases g3 : r.2
              · simp -implicitDefEqProofs only [go_sem, d3, d4, g3]
                obtain ⟨ra, rb⟩ := r
                simp only at g3
                subst g3
                repeat ((first | refine rq ?_ | refine ks_text (c :: b) (ra, false) (by omega) rfl rfl rfl rfl ?_ | refine ks_num (c :: b) (rdT (c :: b) (ra, false)).2 (by omega) rfl rfl rfl rfl ?_ | fail); simp -implicitDefEqProofs only [go_sem, d3, d4])
                refine next_data (i + 1, es ++ [(rdB (c :: b) 1000000000 (ra, false)).1], (rdB (c :: b) 1000000000 (ra, false)).2) ?_ ⟨?_, ?_⟩ ?_
                · rw [wrap_succ (by simp only [LEN]; omega)]
                  simp [rdB]
                · simp only; omega
                · simp only; rw [rdBs_snoc, ← i2]
                · simp only; omega
              · have hend : i = min k 10 ∨ r.2 = true := .inr g3
                simp -implicitDefEqProofs only [go_sem, d3, d4, g3]
                refine ks_NodeText (branchOf es) (by simp [branchOf, LEN]; omega) (by simp [branchOf, LEN]) (by simp [branchOf, LEN]; omega) (ls := [6, 7, 8]) (by simp -implicitDefEqProofs only [go_sem]; first | done | rfl) ?_
                simp only [textV]
                simp -implicitDefEqProofs only [go_sem, g3]
                rw [if_pos (hbig g3)]
                rfl
            · have d4 := decide_eq_false g2
              have hend : i = min k 10 ∨ r.2 = true := .inl (by omega)
              simp -implicitDefEqProofs only [go_sem, d3, d4]
              refine ks_NodeText (branchOf es) (by simp [branchOf, LEN]; omega) (by simp [branchOf, LEN]) (by simp [branchOf, LEN]; omega) (ls := [6, 7, 8]) (by simp -implicitDefEqProofs only [go_sem]; first | done | rfl) ?_
              simp only [textV]
              simp -implicitDefEqProofs only [go_sem]
              cases hb : r.2
              · have hfin := hend.resolve_right (by rw [hb]; simp)
                rw [← hfin, ← i2, if_neg (c := r.2 = true) (by simp [hb])]
                by_cases hn : nodeOk (branchOf es)
                · have dn := decide_eq_true hn
                  rw [if_pos hn]
                  by_cases ht' : nodeText (branchOf es) = t
                  · have dt := decide_eq_true ht'
                    simp -implicitDefEqProofs only [go_sem, dn, dt]
                    try simp only
                    rw [if_pos ⟨hn, ht'⟩]; rfl
                  · have dt := decide_eq_false ht'
                    simp -implicitDefEqProofs only [go_sem, dn, dt]
                    try simp only
                    rw [if_neg (fun h => ht' h.2)]; rfl
                · have dn := decide_eq_false hn
                  simp -implicitDefEqProofs only [go_sem, dn]
                  try simp only
                  rw [if_neg (fun h => hn h.1)]; rfl
              · rw [if_pos (hbig hb)]
                simp -implicitDefEqProofs only [go_sem]
                rfl
          · have d3 := decide_eq_false g1
            have hend : i = min k 10 ∨ r.2 = true := .inl (by omega)
            simp -implicitDefEqProofs only [go_sem, d3]
            refine ks_NodeText (branchOf es) (by simp [branchOf, LEN]; omega) (by simp [branchOf, LEN]) (by simp [branchOf, LEN]; omega) (ls := [6, 7, 8]) (by simp -implicitDefEqProofs only [go_sem]; first | done | rfl) ?_
            simp only [textV]
            simp -implicitDefEqProofs only [go_sem]
            cases hb : r.2
            · have hfin := hend.resolve_right (by rw [hb]; simp)
              rw [← hfin, ← i2, if_neg (c := r.2 = true) (by simp [hb])]
              by_cases hn : nodeOk (branchOf es)
              · have dn := decide_eq_true hn
                rw [if_pos hn]
                by_cases ht' : nodeText (branchOf es) = t
                · have dt := decide_eq_true ht'
                  simp -implicitDefEqProofs only [go_sem, dn, dt]
                  try simp only
                  rw [if_pos ⟨hn, ht'⟩]; rfl
                · have dt := decide_eq_false ht'
                  simp -implicitDefEqProofs only [go_sem, dn, dt]
                  try simp only
                  rw [if_neg (fun h => ht' h.2)]; rfl
              · have dn := decide_eq_false hn
                simp -implicitDefEqProofs only [go_sem, dn]
                try simp only
                rw [if_neg (fun h => hn h.1)]; rfl
            · rw [if_pos (hbig hb)]
              simp -implicitDefEqProofs only [go_sem]
              rfl
theorem ks_ReadNode {h:Heap} {tb:Nat} {K:OK} {args:List V} (t:List UInt8) (ht:t.length≤4611686018427387904) (hg:toDs h args=some ([.str t],[]))
  (hk:K (renV (bk tb ([])) (nodeV (readNode t))) (updN tb ([]) ([]))):callVC Go.Proofs.Tryz.prog h tb 46 args K:=
 call_free hg (cs_ReadNode t ht) rfl (.inl rfl) hk
end Go.Rx
namespace Go.Rx
open Go
attribute [local irreducible] Req Way WayG Sel callVC CallOK seqVC cVC loopVC nextK
theorem late_step {l:List GPut} {i:Nat} {q:GPut} {p:Int} (h:l[i]? =some q):lateText (l.take (i+1)) p=if q.fPage=p then some q.fText else lateText (l.take i) p:=by
 rw [take_snoc h,lateText_snoc]
@[go_sem] def hr156:Hints
 |0=> [0,1]|1=> [1,2]|_=> []
@[go_sem] def hl156:Hints:=fun _=> []
attribute [go_sem] Go.Proofs.Tryz.results156
@[go_sem] def hr82:Hints
 |0=> [0,1]|1=> [1,2]|2=> []|3=> [1,2]|4=> [1,2,5]|5=> [1,2,5]|6=> [1,2,5]|7=> [2,5]|8=> [1,2]|_=> []
@[go_sem] def hl82:Hints
 |4=> [1,2,5]|_=> []
attribute [go_sem] Go.Proofs.Tryz.results82
@[go_sem] def hr47:Hints
 |0=> [0,1]|1=> [1,2]|2=> []|3=> [1,2]|4=> [1,2,5]|5=> [1,2,5]|6=> [1,2,5]|7=> [2,5]|8=> [1,2]|_=> []
@[go_sem] def hl47:Hints
 |4=> [1,2,5]|_=> []
attribute [go_sem] Go.Proofs.Tryz.results47
set_option maxRecDepth 100000 in
set_option maxHeartbeats 16000000 in
theorem cs_ReadPage (d:GDisk) (p:Int) (h1:d.fPages.length≤4611686018427387904) (h2:d.fLate.length≤4611686018427387904):CallOK Go.Proofs.Tryz.prog 47 [.d (.agg d.cells),.d (.int .i64 p)] [] [.dead,.dead] (.d (.str (readPage d p))) []:=by
 refine call_of tysZOK mixedZ Go.Proofs.Tryz.func47 (by kernel_rfl) rfl (np:=[false,false]) (by kernel_rfl) hr47 hl47 (by simp [Go.Proofs.Tryz.ntmps47]) ?_
 have e1:IntKind.i64.wrap ((d.fLate.length:Int) - 1)=(d.fLate.length:Int) - 1:=wrap_int (by omega) (by omega)
 have e0:IntKind.i64.wrap ((d.fPages.length:Int) - 1)=(d.fPages.length:Int) - 1:=wrap_int (by omega) (by omega)
 simp -implicitDefEqProofs only [go_sem,GDisk.cells,e0]
 refine ks_in p 0 ((d.fPages.length:Int) - 1) rfl ?_
 by_cases hp:isPage d p
 ·have dp:decide (0≤p∧p≤(d.fPages.length:Int) - 1)=true:=decide_eq_true hp
  have hp':=hp
  obtain ⟨hp1,hp2⟩:=hp'
  simp -implicitDefEqProofs only [go_sem,dp,e1]
  refine loop_data (α:=Int) (fun x=>⟨[(1,.d (.int .i64 p)),(2,.ref 0 0),(5,.d (.int .i64 x))],[(0,some (.box [.d (.sl (strs d.fPages)),.d (.sl (GPutS d.fLate))]))]⟩)
   (fun x=> -1≤x∧x<d.fLate.length∧lateText (d.fLate.take (x+1).toNat) p=lateText d.fLate p) (fun x=>(x+1).toNat) ((d.fLate.length:Int) - 1) rfl ⟨by omega,by omega,?_⟩ ?_
  ·rw [List.take_of_length_le (by omega)]
  rintro x ⟨x1,x2,x3⟩
  simp -implicitDefEqProofs only [go_sem]
  (first|(refine way_dec (fun h5=>?_) (fun h5=>?_))|(refine way_ndec (fun h5=>?_) (fun h5=>?_))|(refine wayT_dec (fun h5=>?_) (fun h5=>?_))|(refine wayF_dec (fun h5=>?_) (fun h5=>?_))|(refine wayT_ndec (fun h5=>?_) (fun h5=>?_))|(refine wayF_ndec (fun h5=>?_) (fun h5=>?_))|(refine way_not (fun h5=>?_) (fun h5=>?_))|(refine way (fun h5=>?_) (fun h5=>?_))|(refine wayT (fun h5=>?_) (fun h5=>?_))|(refine wayF (fun h5=>?_) (fun h5=>?_)))
  ·obtain ⟨i,rfl⟩:=Int.eq_ofNat_of_zero_le h5
   obtain ⟨q,hq⟩:=some_at (l:=d.fLate) (i:=i) (by omega)
   have e2:((i:Int)+1).toNat=i+1:=by omega
   rw [e2,late_step hq] at x3
   have e3:IntKind.i64.wrap ((i:Int) - 1)=(i:Int) - 1:=wrap_int (by omega) (by omega)
   simp -implicitDefEqProofs only [go_sem,lget_GPutS hq,e3]
   repeat ((first|refine rq ?_|fail);simp -implicitDefEqProofs only [go_sem,lget_GPutS hq,e3])
   (first|(refine way_dec (fun h6=>?_) (fun h6=>?_))|(refine way_ndec (fun h6=>?_) (fun h6=>?_))|(refine wayT_dec (fun h6=>?_) (fun h6=>?_))|(refine wayF_dec (fun h6=>?_) (fun h6=>?_))|(refine wayT_ndec (fun h6=>?_) (fun h6=>?_))|(refine wayF_ndec (fun h6=>?_) (fun h6=>?_))|(refine way_not (fun h6=>?_) (fun h6=>?_))|(refine way (fun h6=>?_) (fun h6=>?_))|(refine wayT (fun h6=>?_) (fun h6=>?_))|(refine wayF (fun h6=>?_) (fun h6=>?_)))
   ·simp -implicitDefEqProofs only [go_sem,lget_GPutS hq]
    repeat ((first|refine rq ?_|fail);simp -implicitDefEqProofs only [go_sem,lget_GPutS hq])
    rw [if_pos h6] at x3
    rw [readPage,if_pos hp,←x3];rfl
   ·simp -implicitDefEqProofs only [go_sem]
    rw [if_neg h6] at x3
    refine next_data ((i:Int) - 1) (by rw [e3]) ⟨by omega,by omega,?_⟩ (by omega)
    have e4:((i:Int) - 1+1).toNat=i:=by omega
    rw [e4];exact x3
  ·obtain rfl:x= -1:=by omega
   obtain ⟨s,hs⟩:=some_at (l:=d.fPages) (i:=p.toNat) (by omega)
   simp -implicitDefEqProofs only [go_sem,lget_strs hs]
   repeat ((first|refine rq ?_|fail);simp -implicitDefEqProofs only [go_sem,lget_strs hs])
   have e4:((-1:Int)+1).toNat=0:=rfl
   rw [e4,List.take_zero,lateText_nil] at x3
   rw [readPage,if_pos hp,←x3,Option.getD_none,getD_some hs]
 ·have dp:decide (0≤p∧p≤(d.fPages.length:Int) - 1)=false:=decide_eq_false hp
  simp -implicitDefEqProofs only [go_sem,dp]
  rw [readPage,if_neg hp]
theorem ks_ReadPage {h:Heap} {tb:Nat} {K:OK} {args:List V} {ls:List Nat} (d:GDisk) (p:Int) (h1:d.fPages.length≤4611686018427387904) (h2:d.fLate.length≤4611686018427387904) (hg:toDs h args=some ([.agg d.cells,.int .i64 p],ls))
  (hk:K (renV (bk tb ([])) (.d (.str (readPage d p)))) (updN tb ([]) ([]))):callVC Go.Proofs.Tryz.prog h tb 47 args K:=
 call_free hg (cs_ReadPage d p h1 h2) rfl (.inr ⟨flat_of rfl,flatHB_of rfl⟩) hk
@[go_sem] def hr140:Hints
 |0=> [0,1]|1=> [0,1]|2=> [0,1,5]|3=> [0,1,5]|4=> [0,1,5]|5=> []|6=> []|_=> []
@[go_sem] def hl140:Hints
 |2=> [0,1,5]|_=> []
attribute [go_sem] Go.Proofs.Tryz.results140
set_option maxRecDepth 100000 in
set_option maxHeartbeats 16000000 in
theorem cs_In (l:List Int) (x:Int) (hl:l.length≤LEN):CallOK Go.Proofs.Tryz.prog 140 [.d (.sl (ints l)),.d (.int .i64 x)] [] [.dead,.dead] (.d (.bool (decide (x∈l)))) []:=by
 refine call_of tysZOK mixedZ Go.Proofs.Tryz.func140 (by kernel_rfl) rfl (np:=[false,false]) (by kernel_rfl) hr140 hl140 (by simp [Go.Proofs.Tryz.ntmps140]) ?_
 simp -implicitDefEqProofs only [go_sem]
 refine loop_data (α:=Nat) (fun i=>⟨[(0,.d (.sl (ints l))),(1,.d (.int .i64 x)),(5,.d (.int .i64 i))],[]⟩)
  (fun i=>i≤l.length∧x∉l.take i) (fun i=>l.length - i) 0 rfl ⟨Nat.zero_le _,by simp⟩ ?_
 rintro i ⟨h2,h3⟩
 simp -implicitDefEqProofs only [go_sem]
 (first|(refine way_dec (fun h5=>?_) (fun h5=>?_))|(refine way_ndec (fun h5=>?_) (fun h5=>?_))|(refine wayT_dec (fun h5=>?_) (fun h5=>?_))|(refine wayF_dec (fun h5=>?_) (fun h5=>?_))|(refine wayT_ndec (fun h5=>?_) (fun h5=>?_))|(refine wayF_ndec (fun h5=>?_) (fun h5=>?_))|(refine way_not (fun h5=>?_) (fun h5=>?_))|(refine way (fun h5=>?_) (fun h5=>?_))|(refine wayT (fun h5=>?_) (fun h5=>?_))|(refine wayF (fun h5=>?_) (fun h5=>?_)))
 ·obtain ⟨p,hp⟩:=some_at h5
  simp -implicitDefEqProofs only [go_sem,lget_ints hp]
  repeat ((first|refine rq ?_|fail);simp -implicitDefEqProofs only [go_sem,lget_ints hp])
  (first|(refine way_dec (fun h6=>?_) (fun h6=>?_))|(refine way_ndec (fun h6=>?_) (fun h6=>?_))|(refine wayT_dec (fun h6=>?_) (fun h6=>?_))|(refine wayF_dec (fun h6=>?_) (fun h6=>?_))|(refine wayT_ndec (fun h6=>?_) (fun h6=>?_))|(refine wayF_ndec (fun h6=>?_) (fun h6=>?_))|(refine way_not (fun h6=>?_) (fun h6=>?_))|(refine way (fun h6=>?_) (fun h6=>?_))|(refine wayT (fun h6=>?_) (fun h6=>?_))|(refine wayF (fun h6=>?_) (fun h6=>?_)))
  ·simp -implicitDefEqProofs only [go_sem]
   have:x∈l:=h6▸List.mem_of_getElem? hp
   simp [this]
  ·simp -implicitDefEqProofs only [go_sem]
   rw [wrap_succ (by omega)]
   refine next_data (i+1) rfl ⟨by omega,fun hm=>?_⟩ (by omega)
   rcases mem_takeS hp hm with hm|rfl
   ·exact h3 hm
   ·exact h6 rfl
 ·simp -implicitDefEqProofs only [go_sem]
  rw [List.take_of_length_le (by omega)] at h3
  simp [h3]
theorem ks_In {h:Heap} {tb:Nat} {K:OK} {args:List V} {ls:List Nat} (l:List Int) (x:Int) (hl:l.length≤LEN) (hg:toDs h args=some ([.sl (ints l),.int .i64 x],ls))
  (hk:K (renV (bk tb ([])) (.d (.bool (decide (x∈l))))) (updN tb ([]) ([]))):callVC Go.Proofs.Tryz.prog h tb 140 args K:=
 call_free hg (cs_In l x hl) rfl (.inr ⟨flat_of rfl,flatHB_of rfl⟩) hk
@[go_sem] def hr158:Hints
 |0=> [0,1]|1=> [0,1]|2=> [0,1,7,8]|3=> [0,1,7,8]|4=> [0,1,5,7,8]|5=> [5]|6=> [0,1,7,8]|7=> []|_=> []
@[go_sem] def hl158:Hints
 |2=> [0,1,7,8]|_=> []
attribute [go_sem] Go.Proofs.Tryz.results158
@[go_sem] def hr240:Hints
 |0=> [0,1]|1=> [0,1]|_=> []
@[go_sem] def hl240:Hints:=fun _=> []
attribute [go_sem] Go.Proofs.Tryz.results240
@[go_sem] def hr241:Hints
 |0=> [0,1]|1=> [1,2]|_=> []
@[go_sem] def hl241:Hints:=fun _=> []
attribute [go_sem] Go.Proofs.Tryz.results241
@[go_sem] def hr242:Hints
 |0=> [0,1]|1=> [1,2]|_=> []
@[go_sem] def hl242:Hints:=fun _=> []
attribute [go_sem] Go.Proofs.Tryz.results242
@[go_sem] def hr202:Hints
 |0=> [0,1]|1=> [0,3]|_=> []
@[go_sem] def hl202:Hints:=fun _=> []
attribute [go_sem] Go.Proofs.Tryz.results202
@[go_sem] def hr203:Hints
 |0=> [0,1]|1=> [0,3]|_=> []
@[go_sem] def hl203:Hints:=fun _=> []
attribute [go_sem] Go.Proofs.Tryz.results203
end Go.Rx
