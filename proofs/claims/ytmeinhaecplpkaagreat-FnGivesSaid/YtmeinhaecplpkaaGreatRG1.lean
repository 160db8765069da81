/-
  Part G1: lemmas on an evaluator over plain data of the model's code, plain laws on lists and numbers, or contracts of functions of the program; each lemma names its conditions.
-/
import Derived.Test.YtmeinhaecplpkaaGreatRF1
import Derived.Test.YtmeinhaecplpkaaGreatRF2
import Derived.Test.YtmeinhaecplpkaaGreatRF3
import Derived.Test.YtmeinhaecplpkaaGreatRF4
import Derived.Test.YtmeinhaecplpkaaGreatRC3
import Derived.Test.YtmeinhaecplpkaaGreatRP5

set_option linter.unusedSimpArgs false
set_option linter.unusedVariables false
namespace Go.Rx
open Go
attribute [local irreducible] Req Way WayG Sel callVC CallOK seqVC cVC loopVC nextK
set_option maxRecDepth 100000 in
set_option maxHeartbeats 16000000 in
theorem cs_do10 {w:GWorld} {e:GEvent} {pg:List Int} {view:Int→List GPair} (hi:WInv w pg view) (hk:e.fKind=10) (hl:e.fLeft.length≤1048576):DoC w e (doF w e):=by
 have hd:doF w e=(fallW w e,0,[]):=by unfold doF;rw [if_neg (by omega),if_neg (by omega),if_neg (by omega),if_neg (by omega),if_neg (by omega),if_neg (by omega),if_neg (by omega),if_neg (by omega),if_neg (by omega),if_pos hk]
 rw [hd]
 unfold DoC doV
 simp only
 refine call_of tysZOK mixedZ Go.Proofs.Tryz.func239 (by kernel_rfl) rfl (np:=[true,false]) (by kernel_rfl) hr239 hl239 (by simp [Go.Proofs.Tryz.ntmps239]) ?_
 simp -implicitDefEqProofs only [go_sem,wdV_eq,GEvent.cells]
 simp -implicitDefEqProofs only [go_sem,wdV_eq,GEvent.cells,hk]
 repeat ((first|refine rq ?_|refine wy ?_|refine wn ?_|refine gy ?_|refine gn ?_|refine call_box_ false (xs:=[.agg e.cells]) (cells:=wdV w) rfl rfl rfl (by simp -implicitDefEqProofs only [go_sem,GEvent.cells_eq,hk];first|done|rfl) rfl (cs_l16Fall hi hl) rfl rfl (.inr (.inl rfl)) ?_|fail);simp -implicitDefEqProofs only [go_sem,wdV_eq,GEvent.cells,hk])
 try rfl
theorem cs_do {w:GWorld} {e:GEvent} {pg:List Int} {view:Int→List GPair} (hi:WInv w pg view) (hk:1≤e.fKind∧e.fKind≤10) (hl:e.fLeft.length≤1048576):DoC w e (doF w e):=by
 have hc:e.fKind=1∨e.fKind=2∨e.fKind=3∨e.fKind=4∨e.fKind=5∨e.fKind=6∨e.fKind=7∨e.fKind=8∨e.fKind=9∨e.fKind=10:=by omega
 rcases hc with h|h|h|h|h|h|h|h|h|h
 ·exact cs_do1 hi h
 ·exact cs_do2 hi h
 ·exact cs_do3 hi h
 ·exact cs_do4 hi h
 ·exact cs_do5 hi h
 ·exact cs_do6 hi h
 ·exact cs_do7 hi h
 ·exact cs_do8 hi h
 ·exact cs_do9 hi h
 ·exact cs_do10 hi h hl
def stepV (w:GWorld):List V:=(wdV w).take 23++[.own 1 0 w.fCodes.length,.own 2 0 w.fTold.length]
theorem step_freeze {P:Program} {f:FuncId} {args:List V} {H:List (Nat×AObj)} {w:GWorld} (hc:CallOK P f args H [.ref 0 0,.dead] (.tup []) [(0,.box (stepV w)),(1,.arr 1 (ints w.fCodes)),(2,.arr 1 (strs w.fTold))]):
  CallOK P f args H [.ref 0 0,.dead] (.tup []) [(0,.box (wdV w))]:=
 freeze_box (ls:=[1,2]) (ls':=[]) (ds:=GWorld.cells w) hc rfl (by simp [stepV,wdV_eq,toDs,toD,cD,hget,GWorld.cells,ints_all,strs_all]) rfl (by simp) rfl
set_option maxRecDepth 100000 in
set_option maxHeartbeats 16000000 in
theorem cs_l16Step {w:GWorld} {e:GEvent} {pg:List Int} {view:Int→List GPair} (hi:WInv w pg view) (hk:1≤e.fKind∧e.fKind≤10) (hl:e.fLeft.length≤1048576) (h1:w.fCodes.length≤100000) (h2:w.fTold.length≤100000):
  CallOK Go.Proofs.Tryz.prog 200 [.ref 0 0,.d (.agg e.cells)] [(0,.box (wdV w))] [.ref 0 0,.dead] (.tup []) [(0,.box (wdV (stepF w e)))]:=by
 have hdo:=cs_do hi hk hl
 obtain ⟨k1,k2⟩:= @doF_keep w e
 refine step_freeze ?_
 unfold stepV stepF
 unfold DoC doV at hdo
 generalize doF w e=r at hdo k1 k2 ⊢
 obtain ⟨u,code,told⟩:=r
 simp only at hdo k1 k2 ⊢
 refine call_of tysZOK mixedZ Go.Proofs.Tryz.func200 (by kernel_rfl) rfl (np:=[true,false]) (by kernel_rfl) hr200 hl200 (by simp [Go.Proofs.Tryz.ntmps200]) ?_
 simp -implicitDefEqProofs only [go_sem,wdV_eq,GEvent.cells]
 refine call_box_ false (xs:=[.agg e.cells]) (cells:=wdV w) rfl rfl rfl (by simp -implicitDefEqProofs only [go_sem,GEvent.cells_eq];first|done|rfl) rfl hdo rfl rfl (.inr (.inl rfl)) ?_
 simp -implicitDefEqProofs only [go_sem,wdV_eq,k1,k2]
 repeat ((first|refine rq ?_|refine wy ?_|refine wn ?_|refine gy ?_|refine gn ?_|fail);simp -implicitDefEqProofs only [go_sem,wdV_eq,k1,k2])
 simp [ints,strs]
@[go_sem] def hr199:Hints
 |0=> [0]|1=> [0,2]|2=> [2,4,5]|3=> [2]|4=> [2,4]|5=> [2,6,7]|_=> []
@[go_sem] def hl199:Hints:=fun _=> []
attribute [go_sem] Go.Proofs.Tryz.results199
set_option maxRecDepth 100000 in
set_option maxHeartbeats 16000000 in
theorem cs_l16New (n:Nat) (hn:4≤n∧n≤40):CallOK Go.Proofs.Tryz.prog 199 [.d (.int .i64 n)] [] [.dead] (.tup [.d (.agg (newW n).cells),.d (.bool true)]) []:=by
 refine call_fr tysZOK mixedZ Go.Proofs.Tryz.func199 (by kernel_rfl) rfl (by kernel_rfl) hr199 hl199 (by simp [Go.Proofs.Tryz.ntmps199]) rfl ?_
 have hf:=fmt_inv hn
 have hsd:=smallD_ok hf.disk
 have hov:openV (fmtD n)= .tup [.d (.agg (openS (fmtD n) meta0).cells),.d (.bool true)]:=by rw [openV,openF_at hf];rfl
 simp -implicitDefEqProofs only [go_sem]
 simp -implicitDefEqProofs only [go_sem,hov,GDisk.cells,openS,GStore.cells,GTxn.zero,GMeta.zero,GWork.zero,GDisk.zero]
 repeat ((first|refine rq ?_|refine wy ?_|refine wn ?_|refine gy ?_|refine gn ?_|refine ks_Format n hn (by simp -implicitDefEqProofs only [go_sem];first|done|rfl) ?_|refine ks_Open (fmtD n) hsd.1 hsd.2 (readPage_small hf.disk) (by simp -implicitDefEqProofs only [go_sem,GDisk.cells_eq];first|done|rfl) ?_|fail);simp -implicitDefEqProofs only [go_sem,hov,GDisk.cells,openS,GStore.cells,GTxn.zero,GMeta.zero,GWork.zero,GDisk.zero])
 try rfl
theorem ks_l16New {h:Heap} {tb:Nat} {K:OK} {args:List V} (n:Nat) (hn:4≤n∧n≤40) (hg:toDs h args=some ([.int .i64 n],[]))
  (hk:K (renV (bk tb ([])) (.tup [.d (.agg (newW n).cells),.d (.bool true)])) (updN tb ([]) ([]))):callVC Go.Proofs.Tryz.prog h tb 199 args K:=
 call_free hg (cs_l16New n hn) rfl (.inl rfl) hk
end Go.Rx
