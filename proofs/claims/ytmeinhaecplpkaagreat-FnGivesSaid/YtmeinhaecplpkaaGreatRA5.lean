/-
  Part A5: lemmas on an evaluator over plain data of the model's code, plain laws on lists and numbers, or contracts of functions of the program; each lemma names its conditions.
-/
import Derived.Test.YtmeinhaecplpkaaGreatRA3
import Derived.Test.YtmeinhaecplpkaaGreatRE6
import Derived.Test.YtmeinhaecplpkaaGreatRP1

set_option linter.unusedSimpArgs false
set_option linter.unusedVariables false
namespace Go.Rx
open Go
attribute [local irreducible] Req Way WayG Sel callVC CallOK seqVC cVC loopVC nextK
@[go_sem] def hr136:Hints
 |0=> [0]|1=> [0]|2=> []|3=> [0]|_=> []
@[go_sem] def hl136:Hints:=fun _=> []
attribute [go_sem] Go.Proofs.Tryz.results136
set_option maxRecDepth 100000 in
set_option maxHeartbeats 16000000 in
theorem ci_cloneInt (l:List Int) (hl:l.length≤2097152):CallOK Go.Proofs.Tryz.prog 136 [.d (.sl (ints l))] [] [.dead] (.own 0 0 l.length) [(0,.arr 1 (ints l))]:=by
 refine call_of tysZOK mixedZ Go.Proofs.Tryz.func136 (by kernel_rfl) rfl (np:=[false]) (by kernel_rfl) hr136 hl136 (by simp [Go.Proofs.Tryz.ntmps136]) ?_
 simp -implicitDefEqProofs only [go_sem]
 intro b hb
 refine way (fun h1=>?_) (fun h1=>?_)
 ·have hl0:l=[]:=by have:=hb h1;simpa [ints] using this
  subst hl0
  simp -implicitDefEqProofs only [go_sem]
  rfl
 ·simp -implicitDefEqProofs only [go_sem]
  repeat ((first|refine rq ?_|fail);simp -implicitDefEqProofs only [go_sem])
theorem ki_cloneInt {h:Heap} {tb:Nat} {K:OK} {args:List V} {ls:List Nat} (l:List Int) (hl:l.length≤2097152) (hg:toDs h args=some ([.sl (ints l)],ls))
  (hk:K (renV (bk tb ([(0,.arr 1 (ints l))])) (.own 0 0 l.length)) (updN tb ([(0,.arr 1 (ints l))]) ([(0,.arr 1 (ints l))]))):callVC Go.Proofs.Tryz.prog h tb 136 args K:=
 call_free hg (ci_cloneInt l hl) rfl (.inr ⟨flat_of rfl,by repeat (first|exact flatH_nil|refine flatH_cons (by first|exact flat_ints|exact flat_strs|exact flat_bls|exact flat_bys|exact flat_GPutS|exact flat_GPairS|exact flat_GFieldS|exact flat_GValueS) ?_)⟩) hk
@[go_sem] def hr170:Hints
 |0=> [0]|1=> [0]|2=> []|3=> [0]|_=> []
@[go_sem] def hl170:Hints:=fun _=> []
attribute [go_sem] Go.Proofs.Tryz.results170
set_option maxRecDepth 100000 in
set_option maxHeartbeats 16000000 in
theorem ci_cloneStr (l:List (List UInt8)) (hl:l.length≤1048576):CallOK Go.Proofs.Tryz.prog 170 [.d (.sl (strs l))] [] [.dead] (.own 0 0 l.length) [(0,.arr 1 (strs l))]:=by
 refine call_of tysZOK mixedZ Go.Proofs.Tryz.func170 (by kernel_rfl) rfl (np:=[false]) (by kernel_rfl) hr170 hl170 (by simp [Go.Proofs.Tryz.ntmps170]) ?_
 simp -implicitDefEqProofs only [go_sem]
 intro b hb
 refine way (fun h1=>?_) (fun h1=>?_)
 ·have hl0:l=[]:=by have:=hb h1;simpa [strs] using this
  subst hl0
  simp -implicitDefEqProofs only [go_sem]
  rfl
 ·simp -implicitDefEqProofs only [go_sem]
  repeat ((first|refine rq ?_|fail);simp -implicitDefEqProofs only [go_sem])
theorem ki_cloneStr {h:Heap} {tb:Nat} {K:OK} {args:List V} {ls:List Nat} (l:List (List UInt8)) (hl:l.length≤1048576) (hg:toDs h args=some ([.sl (strs l)],ls))
  (hk:K (renV (bk tb ([(0,.arr 1 (strs l))])) (.own 0 0 l.length)) (updN tb ([(0,.arr 1 (strs l))]) ([(0,.arr 1 (strs l))]))):callVC Go.Proofs.Tryz.prog h tb 170 args K:=
 call_free hg (ci_cloneStr l hl) rfl (.inr ⟨flat_of rfl,by repeat (first|exact flatH_nil|refine flatH_cons (by first|exact flat_ints|exact flat_strs|exact flat_bls|exact flat_bys|exact flat_GPutS|exact flat_GPairS|exact flat_GFieldS|exact flat_GValueS) ?_)⟩) hk
@[go_sem] def hr171:Hints
 |0=> [0]|1=> [0]|2=> []|3=> [0]|_=> []
@[go_sem] def hl171:Hints:=fun _=> []
attribute [go_sem] Go.Proofs.Tryz.results171
set_option maxRecDepth 100000 in
set_option maxHeartbeats 16000000 in
theorem ci_clonePut (l:List GPut) (hl:l.length≤1048576):CallOK Go.Proofs.Tryz.prog 171 [.d (.sl (GPutS l))] [] [.dead] (.own 0 0 l.length) [(0,.arr 2 (GPutS l))]:=by
 refine call_of tysZOK mixedZ Go.Proofs.Tryz.func171 (by kernel_rfl) rfl (np:=[false]) (by kernel_rfl) hr171 hl171 (by simp [Go.Proofs.Tryz.ntmps171]) ?_
 simp -implicitDefEqProofs only [go_sem]
 intro b hb
 refine way (fun h1=>?_) (fun h1=>?_)
 ·have hl0:l=[]:=by have:=hb h1;simpa [GPutS] using this
  subst hl0
  simp -implicitDefEqProofs only [go_sem]
  rfl
 ·simp -implicitDefEqProofs only [go_sem]
  repeat ((first|refine rq ?_|fail);simp -implicitDefEqProofs only [go_sem])
theorem ki_clonePut {h:Heap} {tb:Nat} {K:OK} {args:List V} {ls:List Nat} (l:List GPut) (hl:l.length≤1048576) (hg:toDs h args=some ([.sl (GPutS l)],ls))
  (hk:K (renV (bk tb ([(0,.arr 2 (GPutS l))])) (.own 0 0 l.length)) (updN tb ([(0,.arr 2 (GPutS l))]) ([(0,.arr 2 (GPutS l))]))):callVC Go.Proofs.Tryz.prog h tb 171 args K:=
 call_free hg (ci_clonePut l hl) rfl (.inr ⟨flat_of rfl,by repeat (first|exact flatH_nil|refine flatH_cons (by first|exact flat_ints|exact flat_strs|exact flat_bls|exact flat_bys|exact flat_GPutS|exact flat_GPairS|exact flat_GFieldS|exact flat_GValueS) ?_)⟩) hk
@[go_sem] def hr98:Hints
 |0=> [0]|1=> [1,2]|_=> []
@[go_sem] def hl98:Hints:=fun _=> []
attribute [go_sem] Go.Proofs.Tryz.results98
set_option maxRecDepth 100000 in
set_option maxHeartbeats 16000000 in
theorem ci_cloneDisk (d:GDisk) (hd:smallD d):CallOK Go.Proofs.Tryz.prog 98 [.d (.agg d.cells)] [] [.dead] (.agg [.own 0 0 d.fPages.length,.own 1 0 d.fLate.length]) [(0,.arr 1 (strs d.fPages)),(1,.arr 2 (GPutS d.fLate))]:=by
 refine call_of tysZOK mixedZ Go.Proofs.Tryz.func98 (by kernel_rfl) rfl (np:=[false]) (by kernel_rfl) hr98 hl98 (by simp [Go.Proofs.Tryz.ntmps98]) ?_
 obtain ⟨h1,h2⟩:=hd
 simp -implicitDefEqProofs only [go_sem,GDisk.cells]
 repeat ((first|refine ki_cloneStr d.fPages h1 rfl ?_|refine ki_clonePut d.fLate h2 rfl ?_|refine rq ?_|fail);simp -implicitDefEqProofs only [go_sem])
theorem ki_cloneDisk {h:Heap} {tb:Nat} {K:OK} {args:List V} {ls:List Nat} (d:GDisk) (hd:smallD d) (hg:toDs h args=some ([.agg d.cells],ls))
  (hk:K (renV (bk tb ([(0,.arr 1 (strs d.fPages)),(1,.arr 2 (GPutS d.fLate))])) (.agg [.own 0 0 d.fPages.length,.own 1 0 d.fLate.length])) (updN tb ([(0,.arr 1 (strs d.fPages)),(1,.arr 2 (GPutS d.fLate))]) ([(0,.arr 1 (strs d.fPages)),(1,.arr 2 (GPutS d.fLate))]))):callVC Go.Proofs.Tryz.prog h tb 98 args K:=
 call_free hg (ci_cloneDisk d hd) rfl (.inr ⟨flat_of rfl,by repeat (first|exact flatH_nil|refine flatH_cons (by first|exact flat_ints|exact flat_strs|exact flat_bls|exact flat_bys|exact flat_GPutS|exact flat_GPairS|exact flat_GFieldS|exact flat_GValueS) ?_)⟩) hk
@[go_sem] def hr76:Hints
 |0=> [0]|1=> [1,2]|_=> []
@[go_sem] def hl76:Hints:=fun _=> []
attribute [go_sem] Go.Proofs.Tryz.results76
set_option maxRecDepth 100000 in
set_option maxHeartbeats 16000000 in
theorem ci_cloneWork (w:GWork) (hw:smallW w):CallOK Go.Proofs.Tryz.prog 76 [.d (.agg w.cells)] [] [.dead] (.agg [.own 0 0 w.fDisk.fPages.length,.own 1 0 w.fDisk.fLate.length,.d (.int .i64 w.fNext),.own 2 0 w.fUsable.length,.own 3 0 w.fGone.length,.own 4 0 w.fFresh.length]) [(0,.arr 1 (strs w.fDisk.fPages)),(1,.arr 2 (GPutS w.fDisk.fLate)),(2,.arr 1 (ints w.fUsable)),(3,.arr 1 (ints w.fGone)),(4,.arr 1 (ints w.fFresh))]:=by
 refine call_of tysZOK mixedZ Go.Proofs.Tryz.func76 (by kernel_rfl) rfl (np:=[false]) (by kernel_rfl) hr76 hl76 (by simp [Go.Proofs.Tryz.ntmps76]) ?_
 obtain ⟨h1,h2,h3,h4⟩:=hw
 simp -implicitDefEqProofs only [go_sem,GWork.cells]
 repeat ((first|refine ki_cloneDisk w.fDisk h1 rfl ?_|refine ki_cloneInt w.fUsable (by omega) rfl ?_|refine ki_cloneInt w.fGone (by omega) rfl ?_|refine ki_cloneInt w.fFresh (by have:=h1.2;omega) rfl ?_|refine rq ?_|fail);simp -implicitDefEqProofs only [go_sem])
theorem ki_cloneWork {h:Heap} {tb:Nat} {K:OK} {args:List V} {ls:List Nat} (w:GWork) (hw:smallW w) (hg:toDs h args=some ([.agg w.cells],ls))
  (hk:K (renV (bk tb ([(0,.arr 1 (strs w.fDisk.fPages)),(1,.arr 2 (GPutS w.fDisk.fLate)),(2,.arr 1 (ints w.fUsable)),(3,.arr 1 (ints w.fGone)),(4,.arr 1 (ints w.fFresh))])) (.agg [.own 0 0 w.fDisk.fPages.length,.own 1 0 w.fDisk.fLate.length,.d (.int .i64 w.fNext),.own 2 0 w.fUsable.length,.own 3 0 w.fGone.length,.own 4 0 w.fFresh.length])) (updN tb ([(0,.arr 1 (strs w.fDisk.fPages)),(1,.arr 2 (GPutS w.fDisk.fLate)),(2,.arr 1 (ints w.fUsable)),(3,.arr 1 (ints w.fGone)),(4,.arr 1 (ints w.fFresh))]) ([(0,.arr 1 (strs w.fDisk.fPages)),(1,.arr 2 (GPutS w.fDisk.fLate)),(2,.arr 1 (ints w.fUsable)),(3,.arr 1 (ints w.fGone)),(4,.arr 1 (ints w.fFresh))]))):callVC Go.Proofs.Tryz.prog h tb 76 args K:=
 call_free hg (ci_cloneWork w hw) rfl (.inr ⟨flat_of rfl,by repeat (first|exact flatH_nil|refine flatH_cons (by first|exact flat_ints|exact flat_strs|exact flat_bls|exact flat_bys|exact flat_GPutS|exact flat_GPairS|exact flat_GFieldS|exact flat_GValueS) ?_)⟩) hk
end Go.Rx
namespace Go.Rx
open Go
attribute [local irreducible] Req Way WayG Sel callVC CallOK seqVC cVC loopVC nextK
@[go_sem] def hr211:Hints
 |0=> [0,1]|1=> [0,1]|2=> [0,1,7,8]|3=> [0,1,7,8]|4=> [0,1,5,7,8]|5=> [5]|6=> [0,1,7,8]|7=> []|_=> []
@[go_sem] def hl211:Hints
 |2=> [0,1,7,8]|_=> []
attribute [go_sem] Go.Proofs.Tryz.results211
@[go_sem] def hr168:Hints
 |0=> [0,1]|1=> [0,1]|_=> []
@[go_sem] def hl168:Hints:=fun _=> []
attribute [go_sem] Go.Proofs.Tryz.results168
@[go_sem] def hr167:Hints
 |0=> [0]|1=> [0]|_=> []
@[go_sem] def hl167:Hints:=fun _=> []
attribute [go_sem] Go.Proofs.Tryz.results167
@[go_sem] def hr169:Hints
 |0=> [0,1]|1=> [1,2]|_=> []
@[go_sem] def hl169:Hints:=fun _=> []
attribute [go_sem] Go.Proofs.Tryz.results169
@[go_sem] def hr97:Hints
 |0=> [0]|1=> [1]|2=> []|3=> [1]|_=> []
@[go_sem] def hl97:Hints:=fun _=> []
attribute [go_sem] Go.Proofs.Tryz.results97
@[go_sem] def hr17:Hints
 |0=> [0]|1=> [1,2]|2=> [1,2,4]|3=> [2,4,5]|4=> [1,2,4,5]|5=> [1,2,4]|6=> [2,4,5]|7=> [1,2,4,5]|8=> [2,4]|9=> [2,4,5]|10=> [2,4,5]|_=> []
@[go_sem] def hl17:Hints:=fun _=> []
attribute [go_sem] Go.Proofs.Tryz.results17
set_option maxRecDepth 100000 in
set_option maxHeartbeats 16000000 in
theorem ci_GivePage (w:GWork) (hw:smallW w):CallOK Go.Proofs.Tryz.prog 17 [.d (.agg w.cells)] [] [.dead] (.tup [(giveO w).1.v,.d (.int .i64 (giveO w).2)]) (giveO w).1.h:=by
 refine call_of tysZOK mixedZ Go.Proofs.Tryz.func17 (by kernel_rfl) rfl (np:=[false]) (by kernel_rfl) hr17 hl17 (by simp [Go.Proofs.Tryz.ntmps17]) ?_
 have hw':=hw
 obtain ⟨⟨h1,h2⟩,h3,h4,h5⟩:=hw'
 simp -implicitDefEqProofs only [go_sem,GWork.cells]
 refine ki_cloneWork w hw rfl ?_
 simp -implicitDefEqProofs only [go_sem]
 rw [giveO]
 cases hu:w.fUsable with
 |nil=>
  have d0:decide ((0:Int)<((0:Nat):Int))=false:=rfl
  by_cases hn:(w.fDisk.fPages.length:Int)≤w.fNext
  ·have dn:=decide_eq_true hn
   simp only [if_pos hn]
   simp -implicitDefEqProofs only [go_sem,d0,dn,OW.v_eq,OW.h_eq,ofW,hu]
  ·have dn:=decide_eq_false hn
   simp only [if_neg hn]
   simp -implicitDefEqProofs only [go_sem,d0,dn,OW.v_eq,OW.h_eq,ofW,hu]
   repeat ((first|refine rq ?_|fail);simp -implicitDefEqProofs only [go_sem,d0,dn,OW.v_eq,OW.h_eq,ofW,hu])
   simp
 |cons u us=>
  have d0:decide ((0:Int)<((us.length+1:Nat):Int))=true:=decide_eq_true (by omega)
  have hg0:lget (ints (u::us)) 0=[.int .i64 u]:=lget_ints rfl
  simp -implicitDefEqProofs only [go_sem,OW.v_eq,OW.h_eq,ofW,hu,d0,hg0]
  repeat ((first|refine rq ?_|fail);simp -implicitDefEqProofs only [go_sem,OW.v_eq,OW.h_eq,ofW,hu,d0,hg0])
  simp
def wrO (d:GDisk) (p:Int) (t:List UInt8):List GPut:=match writePage d p t with
 |some _=>d.fLate++[⟨p,t⟩]
 |none=>d.fLate
@[go_sem] def hr114:Hints
 |0=> [0,1,2]|1=> [1,2,3,6]|2=> [1,2,3,6,8]|3=> [6,8]|4=> [1,2,6,8]|5=> [6,8]|_=> []
@[go_sem] def hl114:Hints:=fun _=> []
attribute [go_sem] Go.Proofs.Tryz.results114
@[go_sem] def hr113:Hints
 |0=> [0]|1=> [1]|2=> []|3=> [1]|4=> [1,4]|5=> [1]|6=> [1,4]|7=> [1,4]|8=> [1,4,19,20,21]|9=> [1,4,19,20,21]|10=> [1,4,5,6,19,20,21]|11=> [1,4,5,19,20,21]|12=> [1,4,5,19,20,21]|13=> [1,4,5,19,20,21]|14=> [1,4,19,20,21]|15=> [4]|_=> []
@[go_sem] def hl113:Hints
 |8=> [1,4,19,20,21]|_=> []
attribute [go_sem] Go.Proofs.Tryz.results113
end Go.Rx
namespace Go.Rx
open Go
attribute [local irreducible] Req Way WayG Sel callVC CallOK seqVC cVC loopVC nextK
@[go_sem] def hr44:Hints
 |0=> [0,1]|1=> [2,3,4]|2=> [2,4,6,7]|3=> [2,4]|4=> [2,4,6]|5=> [2,4,6,8,9]|6=> [2,4]|7=> [2,4,6,8,9]|8=> [2,4,7,8,9,10]|9=> [2,4]|10=> [4,8,9,10]|11=> [4,8,9]|_=> []
@[go_sem] def hl44:Hints:=fun _=> []
attribute [go_sem] Go.Proofs.Tryz.results44
end Go.Rx
