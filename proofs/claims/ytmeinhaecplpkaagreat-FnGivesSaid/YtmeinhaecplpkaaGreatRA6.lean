/-
  Part A6: lemmas on an evaluator over plain data of the model's code, plain laws on lists and numbers, or contracts of functions of the program; each lemma names its conditions.
-/
import Derived.Test.YtmeinhaecplpkaaGreatRA5

set_option linter.unusedSimpArgs false
set_option linter.unusedVariables false
namespace Go.Rx
open Go
attribute [local irreducible] Req Way WayG Sel callVC CallOK seqVC cVC loopVC nextK
@[go_sem] def hr100:Hints
 |0=> [0]|1=> [1,2]|_=> []
@[go_sem] def hl100:Hints:=fun _=> []
attribute [go_sem] Go.Proofs.Tryz.results100
set_option maxRecDepth 100000 in
set_option maxHeartbeats 16000000 in
theorem cs_l03Copy (d:GDisk) (hd:smallD d):CallOK Go.Proofs.Tryz.prog 100 [.d (.agg d.cells)] [] [.dead] (.agg [.own 0 0 d.fPages.length,.own 1 0 d.fLate.length]) [(0,.arr 1 (strs d.fPages)),(1,.arr 2 (GPutS d.fLate))]:=by
 refine call_of tysZOK mixedZ Go.Proofs.Tryz.func100 (by kernel_rfl) rfl (np:=[false]) (by kernel_rfl) hr100 hl100 (by simp [Go.Proofs.Tryz.ntmps100]) ?_
 obtain ⟨h1,h2⟩:=hd
 simp -implicitDefEqProofs only [go_sem,GDisk.cells]
 repeat ((first|refine rq ?_|fail);simp -implicitDefEqProofs only [go_sem,GDisk.cells])
 try rfl
theorem ks_l03Copy {h:Heap} {tb:Nat} {K:OK} {args:List V} {ls:List Nat} (d:GDisk) (hd:smallD d) (hg:toDs h args=some ([.agg d.cells],ls))
  (hk:K (renV (bk tb ([(0,.arr 1 (strs d.fPages)),(1,.arr 2 (GPutS d.fLate))])) (.agg [.own 0 0 d.fPages.length,.own 1 0 d.fLate.length])) (updN tb ([(0,.arr 1 (strs d.fPages)),(1,.arr 2 (GPutS d.fLate))]) ([(0,.arr 1 (strs d.fPages)),(1,.arr 2 (GPutS d.fLate))]))):callVC Go.Proofs.Tryz.prog h tb 100 args K:=
 call_free hg (cs_l03Copy d hd) rfl (.inr ⟨flat_of rfl,by repeat (first|exact flatH_nil|refine flatH_cons (by first|exact flat_ints|exact flat_strs|exact flat_bls|exact flat_bys|exact flat_GPutS|exact flat_GPairS|exact flat_GFieldS|exact flat_GValueS) ?_)⟩) hk
@[go_sem] def hr109:Hints
 |0=> [0]|1=> [1,2]|_=> []
@[go_sem] def hl109:Hints:=fun _=> []
attribute [go_sem] Go.Proofs.Tryz.results109
set_option maxRecDepth 100000 in
set_option maxHeartbeats 16000000 in
theorem cs_l08Copy (w:GWork) (hw:smallW w):CallOK Go.Proofs.Tryz.prog 109 [.d (.agg w.cells)] [] [.dead] (.agg [.own 0 0 w.fDisk.fPages.length,.own 1 0 w.fDisk.fLate.length,.d (.int .i64 w.fNext),.own 2 0 w.fUsable.length,.own 3 0 w.fGone.length,.own 4 0 w.fFresh.length]) [(0,.arr 1 (strs w.fDisk.fPages)),(1,.arr 2 (GPutS w.fDisk.fLate)),(2,.arr 1 (ints w.fUsable)),(3,.arr 1 (ints w.fGone)),(4,.arr 1 (ints w.fFresh))]:=by
 refine call_of tysZOK mixedZ Go.Proofs.Tryz.func109 (by kernel_rfl) rfl (np:=[false]) (by kernel_rfl) hr109 hl109 (by simp [Go.Proofs.Tryz.ntmps109]) ?_
 have hw':=hw
 obtain ⟨h0,h1,h2,h3⟩:=hw'
 obtain ⟨h4,h5⟩:=h0
 simp -implicitDefEqProofs only [go_sem,GWork.cells]
 repeat ((first|refine rq ?_|refine ks_l03Copy w.fDisk hw.1 rfl ?_|fail);simp -implicitDefEqProofs only [go_sem,GDisk.cells])
 try rfl
theorem ks_l08Copy {h:Heap} {tb:Nat} {K:OK} {args:List V} {ls:List Nat} (w:GWork) (hw:smallW w) (hg:toDs h args=some ([.agg w.cells],ls))
  (hk:K (renV (bk tb ([(0,.arr 1 (strs w.fDisk.fPages)),(1,.arr 2 (GPutS w.fDisk.fLate)),(2,.arr 1 (ints w.fUsable)),(3,.arr 1 (ints w.fGone)),(4,.arr 1 (ints w.fFresh))])) (.agg [.own 0 0 w.fDisk.fPages.length,.own 1 0 w.fDisk.fLate.length,.d (.int .i64 w.fNext),.own 2 0 w.fUsable.length,.own 3 0 w.fGone.length,.own 4 0 w.fFresh.length])) (updN tb ([(0,.arr 1 (strs w.fDisk.fPages)),(1,.arr 2 (GPutS w.fDisk.fLate)),(2,.arr 1 (ints w.fUsable)),(3,.arr 1 (ints w.fGone)),(4,.arr 1 (ints w.fFresh))]) ([(0,.arr 1 (strs w.fDisk.fPages)),(1,.arr 2 (GPutS w.fDisk.fLate)),(2,.arr 1 (ints w.fUsable)),(3,.arr 1 (ints w.fGone)),(4,.arr 1 (ints w.fFresh))]))):callVC Go.Proofs.Tryz.prog h tb 109 args K:=
 call_free hg (cs_l08Copy w hw) rfl (.inr ⟨flat_of rfl,by repeat (first|exact flatH_nil|refine flatH_cons (by first|exact flat_ints|exact flat_strs|exact flat_bls|exact flat_bys|exact flat_GPutS|exact flat_GPairS|exact flat_GFieldS|exact flat_GValueS) ?_)⟩) hk
@[go_sem] def hr101:Hints
 |0=> [0]|1=> [1]|2=> [1,3]|3=> [1,3]|4=> [1,3]|5=> []|6=> [1]|7=> [1,4]|8=> [1,4]|9=> [1,4]|10=> []|11=> [1]|_=> []
@[go_sem] def hl101:Hints
 |2=> [1,3]|7=> [1,4]|_=> []
attribute [go_sem] Go.Proofs.Tryz.results101
set_option maxRecDepth 100000 in
set_option maxHeartbeats 16000000 in
theorem cs_DiskOk (d:GDisk) (hd:smallD d):CallOK Go.Proofs.Tryz.prog 101 [.d (.agg d.cells)] [] [.dead] (.d (.bool (decide (diskOk d)))) []:=by
 refine call_of tysZOK mixedZ Go.Proofs.Tryz.func101 (by kernel_rfl) rfl (np:=[false]) (by kernel_rfl) hr101 hl101 (by simp [Go.Proofs.Tryz.ntmps101]) ?_
 obtain ⟨h1,h2⟩:=hd
 simp -implicitDefEqProofs only [go_sem,GDisk.cells]
 refine loop_data (α:=Nat) (fun i=>⟨[(1,.ref 0 0),(3,.d (.int .i64 i))],[(0,some (.box [.d (.sl (strs d.fPages)),.d (.sl (GPutS d.fLate))]))]⟩)
  (fun i=>i≤d.fPages.length∧∀s∈d.fPages.take i,s.length≤240) (fun i=>d.fPages.length - i) 0 rfl ⟨Nat.zero_le _,by simp⟩ ?_
 rintro i ⟨i1,i2⟩
 simp -implicitDefEqProofs only [go_sem]
 (first|(refine way_dec (fun h5=>?_) (fun h5=>?_))|(refine way_ndec (fun h5=>?_) (fun h5=>?_))|(refine wayT_dec (fun h5=>?_) (fun h5=>?_))|(refine wayF_dec (fun h5=>?_) (fun h5=>?_))|(refine wayT_ndec (fun h5=>?_) (fun h5=>?_))|(refine wayF_ndec (fun h5=>?_) (fun h5=>?_))|(refine way_not (fun h5=>?_) (fun h5=>?_))|(refine way (fun h5=>?_) (fun h5=>?_))|(refine wayT (fun h5=>?_) (fun h5=>?_))|(refine wayF (fun h5=>?_) (fun h5=>?_)))
 ·obtain ⟨p,hp⟩:=some_at h5
  have hmem:=List.mem_of_getElem? hp
  simp -implicitDefEqProofs only [go_sem,lget_strs hp]
  repeat ((first|refine rq ?_|fail);simp -implicitDefEqProofs only [go_sem,lget_strs hp])
  (first|(refine way_dec (fun h6=>?_) (fun h6=>?_))|(refine way_ndec (fun h6=>?_) (fun h6=>?_))|(refine wayT_dec (fun h6=>?_) (fun h6=>?_))|(refine wayF_dec (fun h6=>?_) (fun h6=>?_))|(refine wayT_ndec (fun h6=>?_) (fun h6=>?_))|(refine wayF_ndec (fun h6=>?_) (fun h6=>?_))|(refine way_not (fun h6=>?_) (fun h6=>?_))|(refine way (fun h6=>?_) (fun h6=>?_))|(refine wayT (fun h6=>?_) (fun h6=>?_))|(refine wayF (fun h6=>?_) (fun h6=>?_)))
  ·simp -implicitDefEqProofs only [go_sem]
   have:¬diskOk d:=fun h=>by have:=h.2.2.2.1 p hmem;omega
   simp [this]
  ·simp -implicitDefEqProofs only [go_sem]
   repeat ((first|refine rq ?_|fail);simp -implicitDefEqProofs only [go_sem])
   rw [wrap_succ (by simp only [LEN];omega)]
   refine next_data (i+1) rfl ⟨by omega,fun s hs=>?_⟩ (by omega)
   rcases mem_takeS hp hs with hs|rfl
   ·exact i2 s hs
   ·omega
 ·rw [List.take_of_length_le (by omega)] at i2
  simp -implicitDefEqProofs only [go_sem]
  refine loop_data (α:=Nat) (fun i=>⟨[(1,.ref 0 0),(4,.d (.int .i64 i))],[(0,some (.box [.d (.sl (strs d.fPages)),.d (.sl (GPutS d.fLate))]))]⟩)
   (fun i=>i≤d.fLate.length∧∀s∈d.fLate.take i,isPage d s.fPage∧s.fText.length≤240) (fun i=>d.fLate.length - i) 0 rfl ⟨Nat.zero_le _,by simp⟩ ?_
  rintro i ⟨i3,i4⟩
  simp -implicitDefEqProofs only [go_sem]
  (first|(refine way_dec (fun h6=>?_) (fun h6=>?_))|(refine way_ndec (fun h6=>?_) (fun h6=>?_))|(refine wayT_dec (fun h6=>?_) (fun h6=>?_))|(refine wayF_dec (fun h6=>?_) (fun h6=>?_))|(refine wayT_ndec (fun h6=>?_) (fun h6=>?_))|(refine wayF_ndec (fun h6=>?_) (fun h6=>?_))|(refine way_not (fun h6=>?_) (fun h6=>?_))|(refine way (fun h6=>?_) (fun h6=>?_))|(refine wayT (fun h6=>?_) (fun h6=>?_))|(refine wayF (fun h6=>?_) (fun h6=>?_)))
  ·obtain ⟨p,hp⟩:=some_at h6
   have hmem:=List.mem_of_getElem? hp
   have hw:IntKind.i64.wrap ((d.fPages.length:Int) - 1)=(d.fPages.length:Int) - 1:=wrap_int (by omega) (by omega)
   have hdec:decide (0≤p.fPage∧p.fPage≤(d.fPages.length:Int) - 1)=decide (isPage d p.fPage):=by
    rw [decide_eq_decide];unfold isPage;omega
   cases hq:decide (isPage d p.fPage)
   ·rw [hq] at hdec
    simp -implicitDefEqProofs only [go_sem,lget_GPutS hp,hw]
    repeat ((first|refine rq ?_|refine ks_in _ _ _ rfl ?_|fail);simp -implicitDefEqProofs only [go_sem,lget_GPutS hp,hw,hdec])
    have:¬diskOk d:=fun h=>(of_decide_eq_false hq) (h.2.2.2.2 p hmem).1
    simp [this]
   ·rw [hq] at hdec
    cases ht:decide ((240:Int)<p.fText.length)
    ·simp -implicitDefEqProofs only [go_sem,lget_GPutS hp,hw]
     repeat ((first|refine rq ?_|refine ks_in _ _ _ rfl ?_|fail);simp -implicitDefEqProofs only [go_sem,lget_GPutS hp,hw,hdec,ht])
     rw [wrap_succ (by simp only [LEN];omega)]
     refine next_data (i+1) rfl ⟨by omega,fun s hs=>?_⟩ (by omega)
     rcases mem_takeS hp hs with hs|rfl
     ·exact i4 s hs
     ·exact ⟨of_decide_eq_true hq,by have:=of_decide_eq_false ht;omega⟩
    ·simp -implicitDefEqProofs only [go_sem,lget_GPutS hp,hw]
     repeat ((first|refine rq ?_|refine ks_in _ _ _ rfl ?_|fail);simp -implicitDefEqProofs only [go_sem,lget_GPutS hp,hw,hdec,ht])
     have:¬diskOk d:=fun h=>by have:=of_decide_eq_true ht;have:=(h.2.2.2.2 p hmem).2;omega
     simp [this]
  ·rw [List.take_of_length_le (by omega)] at i4
   simp -implicitDefEqProofs only [go_sem]
   cases g1:decide ((4:Int)≤d.fPages.length∧(d.fPages.length:Int)≤40)
   ·repeat ((first|refine rq ?_|refine ks_in _ _ _ rfl ?_|fail);simp -implicitDefEqProofs only [go_sem,g1])
    have:¬diskOk d:=fun h=>(of_decide_eq_false g1) ⟨by have:=h.1;omega,by have:=h.2.1;omega⟩
    simp [this]
   ·repeat ((first|refine rq ?_|refine ks_in _ _ _ rfl ?_|fail);simp -implicitDefEqProofs only [go_sem,g1])
    have:=of_decide_eq_true g1
    have:decide ((d.fLate.length:Int)≤200)=decide (diskOk d):=by
     rw [decide_eq_decide]
     exact ⟨fun h=>⟨by omega,by omega,by omega,i2,i4⟩,fun h=>by have:=h.2.2.1;omega⟩
    rw [this]
theorem ks_DiskOk {h:Heap} {tb:Nat} {K:OK} {args:List V} {ls:List Nat} (d:GDisk) (hd:smallD d) (hg:toDs h args=some ([.agg d.cells],ls))
  (hk:K (renV (bk tb ([])) (.d (.bool (decide (diskOk d))))) (updN tb ([]) ([]))):callVC Go.Proofs.Tryz.prog h tb 101 args K:=
 call_free hg (cs_DiskOk d hd) rfl (.inr ⟨flat_of rfl,flatHB_of rfl⟩) hk
end Go.Rx
namespace Go.Rx
open Go
attribute [local irreducible] Req Way WayG Sel callVC CallOK seqVC cVC loopVC nextK
def putW (w:GWork) (n:GNode):GWork×Int:=match putN w n with
 |none=>(w,0)
 |some (w',p)=>(w',p)
@[go_sem] def hr117:Hints
 |0=> [0,1,2]|1=> [1,2,3,6]|2=> [1,2,3,6,8]|3=> [6,8]|4=> [1,2,6,8]|5=> [6,8]|_=> []
@[go_sem] def hl117:Hints:=fun _=> []
attribute [go_sem] Go.Proofs.Tryz.results117
set_option maxRecDepth 100000 in
set_option maxHeartbeats 16000000 in
theorem cs_WritePage (d:GDisk) (p:Int) (t:List UInt8) (hd:smallD d):CallOK Go.Proofs.Tryz.prog 117 [.d (.agg d.cells),.d (.int .i64 p),.d (.str t)] [] [.dead,.dead,.dead] (.tup [.agg [.own 0 0 d.fPages.length,.own 1 0 (wrO d p t).length],.d (.bool (writePage d p t).isSome)]) [(0,.arr 1 (strs d.fPages)),(1,.arr 2 (GPutS (wrO d p t)))]:=by
 refine call_of tysZOK mixedZ Go.Proofs.Tryz.func117 (by kernel_rfl) rfl (np:=[false,false,false]) (by kernel_rfl) hr117 hl117 (by simp [Go.Proofs.Tryz.ntmps117]) ?_
 have hd':=hd
 obtain ⟨h1,h2⟩:=hd'
 have hw:IntKind.i64.wrap ((d.fPages.length:Int) - 1)=(d.fPages.length:Int) - 1:=wrap_int (by omega) (by omega)
 simp -implicitDefEqProofs only [go_sem,GDisk.cells]
 refine ks_l03Copy d hd rfl ?_
 simp -implicitDefEqProofs only [go_sem]
 refine ks_DiskOk d hd rfl ?_
 unfold wrO
 by_cases g1:diskOk d
 ·have d1:=decide_eq_true g1
  have hl:=g1.2.2.1
  by_cases g2:isPage d p
  ·have d2:=decide_eq_true g2
   have d2':decide (0≤p∧p≤(d.fPages.length:Int) - 1)=true:=d2
   by_cases g3:(240:Int)<t.length
   ·have d3:=decide_eq_true g3
    have hw2:writePage d p t=none:=by rw [writePage,if_neg (fun h=>by have:=h.2.2.1;omega)]
    simp only [hw2]
    simp -implicitDefEqProofs only [go_sem,d1,hw]
    repeat ((first|refine rq ?_|refine ks_in _ _ _ rfl ?_|fail);simp -implicitDefEqProofs only [go_sem,d1,d2',d3,hw])
    rfl
   ·have d3:=decide_eq_false g3
    by_cases g4:((d.fLate.length:Nat):Int)=200
    ·have d4:=decide_eq_true g4
     have hw2:writePage d p t=none:=by rw [writePage,if_neg (fun h=>by have:=h.2.2.2;omega)]
     simp only [hw2]
     simp -implicitDefEqProofs only [go_sem,d1,hw]
     repeat ((first|refine rq ?_|refine ks_in _ _ _ rfl ?_|fail);simp -implicitDefEqProofs only [go_sem,d1,d2',d3,d4,hw])
     try first|rfl|simp
    ·have d4:=decide_eq_false g4
     have hw2:writePage d p t=some {d with fLate:=d.fLate++[⟨p,t⟩]}:=by rw [writePage,if_pos ⟨g1,g2,by omega,by omega⟩]
     simp only [hw2]
     simp -implicitDefEqProofs only [go_sem,d1,hw]
     repeat ((first|refine rq ?_|refine ks_in _ _ _ rfl ?_|fail);simp -implicitDefEqProofs only [go_sem,d1,d2',d3,d4,hw])
     try first|rfl|simp
  ·have d2:decide (0≤p∧p≤(d.fPages.length:Int) - 1)=false:=decide_eq_false g2
   have hw2:writePage d p t=none:=by rw [writePage,if_neg (fun h=>g2 h.2.1)]
   simp only [hw2]
   simp -implicitDefEqProofs only [go_sem,d1,hw]
   repeat ((first|refine rq ?_|refine ks_in _ _ _ rfl ?_|fail);simp -implicitDefEqProofs only [go_sem,d1,d2,hw])
   rfl
 ·have d1:=decide_eq_false g1
  have hw2:writePage d p t=none:=by rw [writePage,if_neg (fun h=>g1 h.1)]
  simp only [hw2]
  simp -implicitDefEqProofs only [go_sem,d1,hw]
  repeat ((first|refine rq ?_|refine ks_in _ _ _ rfl ?_|fail);simp -implicitDefEqProofs only [go_sem,d1,hw])
  rfl
theorem ks_WritePage {h:Heap} {tb:Nat} {K:OK} {args:List V} {ls:List Nat} (d:GDisk) (p:Int) (t:List UInt8) (hd:smallD d) (hg:toDs h args=some ([.agg d.cells,.int .i64 p,.str t],ls))
  (hk:K (renV (bk tb ([(0,.arr 1 (strs d.fPages)),(1,.arr 2 (GPutS (wrO d p t)))])) (.tup [.agg [.own 0 0 d.fPages.length,.own 1 0 (wrO d p t).length],.d (.bool (writePage d p t).isSome)])) (updN tb ([(0,.arr 1 (strs d.fPages)),(1,.arr 2 (GPutS (wrO d p t)))]) ([(0,.arr 1 (strs d.fPages)),(1,.arr 2 (GPutS (wrO d p t)))]))):callVC Go.Proofs.Tryz.prog h tb 117 args K:=
 call_free hg (cs_WritePage d p t hd) rfl (.inr ⟨flat_of rfl,by repeat (first|exact flatH_nil|refine flatH_cons (by first|exact flat_ints|exact flat_strs|exact flat_bls|exact flat_bys|exact flat_GPutS|exact flat_GPairS|exact flat_GFieldS|exact flat_GValueS) ?_)⟩) hk
@[go_sem] def hr116:Hints
 |0=> [0]|1=> [1,2]|2=> [1,2,4]|3=> [1,2,4]|4=> [1,2,4]|5=> [1,2,4]|6=> [1,2,4]|7=> [2,4]|8=> [1,2,4]|9=> [1,2,4]|10=> [1,2,4]|_=> []
@[go_sem] def hl116:Hints:=fun _=> []
attribute [go_sem] Go.Proofs.Tryz.results116
set_option maxRecDepth 100000 in
set_option maxHeartbeats 16000000 in
theorem cs_GivePage (w:GWork) (hw:smallW w):CallOK Go.Proofs.Tryz.prog 116 [.d (.agg w.cells)] [] [.dead] (.tup [(ofW (giveP w).1).v,.d (.int .i64 (giveP w).2)]) (ofW (giveP w).1).h:=by
 refine call_of tysZOK mixedZ Go.Proofs.Tryz.func116 (by kernel_rfl) rfl (np:=[false]) (by kernel_rfl) hr116 hl116 (by simp [Go.Proofs.Tryz.ntmps116]) ?_
 have hw':=hw
 obtain ⟨⟨h1,h2⟩,h3,h4,h5⟩:=hw'
 simp -implicitDefEqProofs only [go_sem,GWork.cells]
 refine ks_l08Copy w hw rfl ?_
 simp -implicitDefEqProofs only [go_sem]
 unfold giveP
 cases hu:w.fUsable with
 |nil=>
  have d0:decide ((0:Int)<((0:Nat):Int))=false:=rfl
  by_cases hn:(w.fDisk.fPages.length:Int)≤w.fNext
  ·have dn:=decide_eq_true hn
   simp only [if_pos hn]
   simp -implicitDefEqProofs only [go_sem,d0,dn,hu]
   repeat ((first|refine rq ?_|fail);simp -implicitDefEqProofs only [go_sem,d0,dn,hu])
   simp [OW.v_eq,OW.h_eq,ofW,hu,ints]
  ·have dn:=decide_eq_false hn
   simp only [if_neg hn]
   simp -implicitDefEqProofs only [go_sem,d0,dn,hu]
   repeat ((first|refine rq ?_|fail);simp -implicitDefEqProofs only [go_sem,d0,dn,hu])
   simp [OW.v_eq,OW.h_eq,ofW,hu,ints]
 |cons u us=>
  have d0:decide ((0:Int)<((us.length+1:Nat):Int))=true:=decide_eq_true (by omega)
  have hg0:lget (ints (u::us)) 0=[.int .i64 u]:=lget_ints rfl
  have hul:us.length+1≤1048576:=by have:=h3;rw [hu] at this;simpa using this
  have hcut:List.drop (Int.toNat 1) (List.take (us.length+1) (ints (u::us)))=ints us:=by rw [List.take_of_length_le (by simp [ints])];rfl
  simp -implicitDefEqProofs only [go_sem,hu,d0,hg0,hcut]
  repeat ((first|refine rq ?_|fail);simp -implicitDefEqProofs only [go_sem,hu,d0,hg0,hcut])
  first|rfl|simp [OW.v_eq,OW.h_eq,ofW]
theorem ks_GivePage {h:Heap} {tb:Nat} {K:OK} {args:List V} {ls:List Nat} (w:GWork) (hw:smallW w) (hg:toDs h args=some ([.agg w.cells],ls))
  (hk:K (renV (bk tb ((ofW (giveP w).1).h)) (.tup [(ofW (giveP w).1).v,.d (.int .i64 (giveP w).2)])) (updN tb ((ofW (giveP w).1).h) ((ofW (giveP w).1).h))):callVC Go.Proofs.Tryz.prog h tb 116 args K:=
 call_free hg (cs_GivePage w hw) rfl (.inr ⟨flat_of rfl,flat_owh⟩) hk
@[go_sem] def hr45:Hints
 |0=> [0,1]|1=> [2,3,4]|2=> [2,4,6,7]|3=> [2,4]|4=> [2,4,6]|5=> [2,4,6,8,9]|6=> [2,4]|7=> [2,4,6,8,9]|8=> [2,4,8,9,10,11]|9=> [2,4]|10=> [4,8,9,10]|11=> [4,8,9]|_=> []
@[go_sem] def hl45:Hints:=fun _=> []
attribute [go_sem] Go.Proofs.Tryz.results45
set_option maxRecDepth 100000 in
set_option maxHeartbeats 16000000 in
theorem cs_PutNode (w:GWork) (n:GNode) (hw:smallW w) (h1:n.fKeys.length≤LEN) (h2:n.fVals.length≤LEN) (h3:n.fKids.length≤LEN):CallOK Go.Proofs.Tryz.prog 45 [.d (.agg w.cells),.d (.agg n.cells)] [] [.dead,.dead] (.tup [(ofW (putW w n).1).v,.d (.int .i64 (putW w n).2)]) (ofW (putW w n).1).h:=by
 refine call_of tysZOK mixedZ Go.Proofs.Tryz.func45 (by kernel_rfl) rfl (np:=[false,false]) (by kernel_rfl) hr45 hl45 (by simp [Go.Proofs.Tryz.ntmps45]) ?_
 simp -implicitDefEqProofs only [go_sem,GWork.cells,GNode.cells]
 refine ks_NodeText n h1 h2 h3 rfl ?_
 simp only [textV]
 unfold putW
 by_cases hn:nodeOk n
 ·have dn:=decide_eq_true hn
  simp -implicitDefEqProofs only [go_sem,dn,if_pos hn]
  obtain ⟨g1,g2,g3,g4⟩:=giveP_small hw
  refine ks_GivePage w hw rfl ?_
  rw [putN,if_pos hn]
  generalize hv:giveP w=v at g1 g2 g3 g4 ⊢
  obtain ⟨w1,p⟩:=v
  simp only at g1 g2 g3 g4 ⊢
  have hd1:smallD w1.fDisk:=by rw [g1];exact hw.1
  simp -implicitDefEqProofs only [go_sem,OW.v_eq,OW.h_eq]
  repeat ((first|refine rq ?_|fail);simp -implicitDefEqProofs only [go_sem,OW.v_eq,OW.h_eq])
  by_cases hp:p=0
  ·have dp:=decide_eq_true hp
   rw [if_pos hp]
   simp -implicitDefEqProofs only [go_sem,dp]
   repeat ((first|refine rq ?_|refine ks_l08Copy w hw rfl ?_|fail);simp -implicitDefEqProofs only [go_sem,OW.v_eq,OW.h_eq])
   first|rfl|simp [OW.v_eq,OW.h_eq,ofW]
  ·have dp:=decide_eq_false hp
   rw [if_neg hp]
   simp -implicitDefEqProofs only [go_sem,dp]
   refine ks_WritePage w1.fDisk p (nodeText n) hd1 (by simp -implicitDefEqProofs only [go_sem];first|done|rfl) ?_
   unfold wrO
   cases hwr:writePage w1.fDisk p (nodeText n) with
   |none=>
    simp only [Option.isSome_none]
    simp -implicitDefEqProofs only [go_sem,OW.v_eq,OW.h_eq]
    repeat ((first|refine rq ?_|refine ks_l08Copy w hw rfl ?_|fail);simp -implicitDefEqProofs only [go_sem,OW.v_eq,OW.h_eq])
    first|rfl|simp [OW.v_eq,OW.h_eq,ofW]
   |some d=>
    obtain rfl:d= {w1.fDisk with fLate:=w1.fDisk.fLate++[⟨p,nodeText n⟩]}:=by
     unfold writePage at hwr
     split at hwr
     ·exact (Option.some.inj hwr).symm
     ·cases hwr
    simp only [Option.isSome_some]
    simp -implicitDefEqProofs only [go_sem,OW.v_eq,OW.h_eq]
    repeat ((first|refine rq ?_|fail);simp -implicitDefEqProofs only [go_sem,OW.v_eq,OW.h_eq])
    first|rfl|simp [OW.v_eq,OW.h_eq,ofW]
 ·have dn:=decide_eq_false hn
  have hpn:putN w n=none:=by rw [putN,if_neg hn]
  rw [hpn]
  simp -implicitDefEqProofs only [go_sem,dn]
  repeat ((first|refine rq ?_|refine ks_l08Copy w hw rfl ?_|fail);simp -implicitDefEqProofs only [go_sem,OW.v_eq,OW.h_eq])
  first|rfl|simp [OW.v_eq,OW.h_eq,ofW]
theorem ks_PutNode {h:Heap} {tb:Nat} {K:OK} {args:List V} {ls:List Nat} (w:GWork) (n:GNode) (hw:smallW w) (h1:n.fKeys.length≤LEN) (h2:n.fVals.length≤LEN) (h3:n.fKids.length≤LEN) (hg:toDs h args=some ([.agg w.cells,.agg n.cells],ls))
  (hk:K (renV (bk tb ((ofW (putW w n).1).h)) (.tup [(ofW (putW w n).1).v,.d (.int .i64 (putW w n).2)])) (updN tb ((ofW (putW w n).1).h) ((ofW (putW w n).1).h))):callVC Go.Proofs.Tryz.prog h tb 45 args K:=
 call_free hg (cs_PutNode w n hw h1 h2 h3) rfl (.inr ⟨flat_of rfl,flat_owh⟩) hk
end Go.Rx
