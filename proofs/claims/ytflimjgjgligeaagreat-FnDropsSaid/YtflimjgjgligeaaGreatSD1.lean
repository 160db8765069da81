/-
  Part D1: lemmas on an evaluator over plain data of the model's code, plain laws on lists and numbers, or contracts of functions of the program; each lemma names its conditions.
-/
import Derived.Test.YtflimjgjgligeaaGreatSC4
import Derived.Test.YtflimjgjgligeaaGreatSP5

set_option linter.unusedSimpArgs false
set_option linter.unusedVariables false
set_option maxRecDepth 100000
set_option maxHeartbeats 16000000
set_option linter.defProp false
namespace Go.Rx
open Go
attribute [local irreducible] Req Way WayG Sel Z2 ZQ Zaz cVC Zai ZaO
@[go_sem] def hr187:ZW:=hh [[0],[1],[1,3],[1,3,4],[1,3,4],[1,3,4],[1,4],[3]]
@[go_sem] def hl187:ZW:=hh [[],[],[],[1,3,4]]
attribute [go_sem] Go.Proofs.Tryz.results187
theorem ZpK (s:ZN) (hs:ZiE s):ZQ Go.Proofs.Tryz.prog 187 [.d (.agg s.cells)] [] [.dead] (.d (.int .i64 (Zco s))) []:=by
 refine cof Go.Proofs.Tryz.func187 hr187 hl187 [false] ?_;have h1:=hs.few;simp -implicitDefEqProofs only [go_sem,ZN.cells];refine ZY (α:=Nat) (fun i=>⟨[(1,.ref 0 0),(3,.d (.int .i64 (Zne s i))),(4,.d (.int .i64 i))],[(0,some (.box [.d (.sl (strs s.Zc.Zv)),.d (.sl (Zae s.Zc.Zm)),.d (.int .i64 s.Zp.ZF),.d (.int .i64 s.Zp.Zy),.d (.int .i64 s.Zp.Zs),.d (.sl (Z9 s.Zp.Ze)),.d (.sl (Zaa s.Zx)),.d (.int .i64 s.ZG.Za.ZF),.d (.int .i64 s.ZG.Za.Zy),.d (.int .i64 s.ZG.Za.Zs),.d (.sl (Z9 s.ZG.Za.Ze)),.d (.sl (strs s.ZG.ZK.Zc.Zv)),.d (.sl (Zae s.ZG.ZK.Zc.Zm)),.d (.int .i64 s.ZG.ZK.Zs),.d (.sl (ints s.ZG.ZK.ZH)),.d (.sl (ints s.ZG.ZK.Zg)),.d (.sl (ints s.ZG.ZK.Zf)),.d (.int .i64 s.ZG.Zy),.d (.bool s.ZL),.d (.bool s.Zd)]))]⟩)
  (fun i=>i≤s.Zx.length) (fun i=>s.Zx.length - i) 0 rfl (Nat.zero_le _) ?_
 rintro i i1;simp -implicitDefEqProofs only [go_sem];refine fork (fun h5=>?_) (fun h5=>?_)
 ·obtain ⟨r,hr⟩:=Z3 h5;have hst:=ZrR hr;have hi1:IntKind.i64.wrap ((i:Int)+1)=((i+1:Nat):Int):=ZV (by simp only [LEN];omega);by_cases hx:r.Zp.ZF<Zne s i
  ·have dx:=decide_eq_true hx;rw [if_pos hx] at hst;simp -implicitDefEqProofs only [go_sem,Zag hr,dx];repeat ((first|refine rq ?_|refine wl ?_|refine gl ?_|fail);simp -implicitDefEqProofs only [go_sem,Zag hr,dx])
   rw [hi1,←hst];exact ZP (i+1) rfl (by omega) (by omega)
  ·have dx:=decide_eq_false hx;rw [if_neg hx] at hst;simp -implicitDefEqProofs only [go_sem,Zag hr,dx];repeat ((first|refine rq ?_|refine wl ?_|refine gl ?_|fail);simp -implicitDefEqProofs only [go_sem,Zag hr,dx])
   rw [hi1,←hst];exact ZP (i+1) rfl (by omega) (by omega)
 ·have hi:i=s.Zx.length:=by omega
  subst hi;rw [Zup];simp -implicitDefEqProofs only [go_sem];repeat ((first|refine rq ?_|refine wl ?_|refine gl ?_|fail);simp -implicitDefEqProofs only [go_sem])
def ZjS (s:ZN) (hs:ZiE s):=kf (ZpK s hs)
@[go_sem] def hr297:ZW:=hh [[0],[1,2],[1,2,3],[1,2,3,4],[1,2,3,4],[1,2,3,4],[2,3]]
@[go_sem] def hl297:ZW:=hh [[],[],[],[1,2,3,4]]
attribute [go_sem] Go.Proofs.Tryz.results297
theorem ZsC (s:ZN) (hs:ZiE s):ZQ Go.Proofs.Tryz.prog 297 [.d (.agg s.cells)] [] [.dead] (.d (.agg s.cells)) []:=by
 refine cofF Go.Proofs.Tryz.func297 hr297 hl297 ?_;have h1:=hs.few;simp -implicitDefEqProofs only [go_sem,ZN.cells];repeat ((first|refine rq ?_|refine Zd3 (xs:=[.agg s.Zc.cells]) (Zd9 s.Zc hs.disk) (by simp -implicitDefEqProofs only [go_sem,ZT.cells_eq];first|done|rfl) rfl ?_|refine ZbY s.Zp (ZaK hs.mt) (by simp -implicitDefEqProofs only [go_sem,ZX.cells_eq];first|done|rfl) ?_|refine ZfY s.ZG hs.base hs.work (by simp -implicitDefEqProofs only [go_sem,GTxn.cells_eq];first|done|rfl) ?_|fail);simp -implicitDefEqProofs only [go_sem,ZT.cells,ZX.cells,GTxn.cells])
 refine ZY (α:=Nat) (fun i=>⟨[(1,.ref 0 0),(2,.ref 1 0),(3,.ref 12 0),(4,.d (.int .i64 i))],[(0,some (.box [.d (.sl (strs s.Zc.Zv)),.d (.sl (Zae s.Zc.Zm)),.d (.int .i64 s.Zp.ZF),.d (.int .i64 s.Zp.Zy),.d (.int .i64 s.Zp.Zs),.d (.sl (Z9 s.Zp.Ze)),.d (.sl (Zaa s.Zx)),.d (.int .i64 s.ZG.Za.ZF),.d (.int .i64 s.ZG.Za.Zy),.d (.int .i64 s.ZG.Za.Zs),.d (.sl (Z9 s.ZG.Za.Ze)),.d (.sl (strs s.ZG.ZK.Zc.Zv)),.d (.sl (Zae s.ZG.ZK.Zc.Zm)),.d (.int .i64 s.ZG.ZK.Zs),.d (.sl (ints s.ZG.ZK.ZH)),.d (.sl (ints s.ZG.ZK.Zg)),.d (.sl (ints s.ZG.ZK.Zf)),.d (.int .i64 s.ZG.Zy),.d (.bool s.ZL),.d (.bool s.Zd)])),(1,some (.box [.own 2 0 0,.own 3 0 0,.d (.int .i64 0),.d (.int .i64 0),.d (.int .i64 0),.own 4 0 0,.own 5 0 0,.d (.int .i64 0),.d (.int .i64 0),.d (.int .i64 0),.own 6 0 0,.own 7 0 0,.own 8 0 0,.d (.int .i64 0),.own 9 0 0,.own 10 0 0,.own 11 0 0,.d (.int .i64 0),.d (.bool false),.d (.bool false)])),(2,some (.arr 1 [])),(3,some (.arr 2 [])),(4,some (.arr 2 [])),(5,some (.arr 5 [])),(6,some (.arr 2 [])),(7,some (.arr 1 [])),(8,some (.arr 2 [])),(9,some (.arr 1 [])),(10,some (.arr 1 [])),(11,some (.arr 1 [])),(12,some (.box [.d (.sl (strs s.Zc.Zv)),.d (.sl (Zae s.Zc.Zm)),.d (.int .i64 s.Zp.ZF),.d (.int .i64 s.Zp.Zy),.d (.int .i64 s.Zp.Zs),.d (.sl (Z9 s.Zp.Ze)),.own 13 0 i,.d (.int .i64 s.ZG.Za.ZF),.d (.int .i64 s.ZG.Za.Zy),.d (.int .i64 s.ZG.Za.Zs),.d (.sl (Z9 s.ZG.Za.Ze)),.d (.sl (strs s.ZG.ZK.Zc.Zv)),.d (.sl (Zae s.ZG.ZK.Zc.Zm)),.d (.int .i64 s.ZG.ZK.Zs),.d (.sl (ints s.ZG.ZK.ZH)),.d (.sl (ints s.ZG.ZK.Zg)),.d (.sl (ints s.ZG.ZK.Zf)),.d (.int .i64 s.ZG.Zy),.d (.bool s.ZL),.d (.bool s.Zd)])),(13,some (.arr 5 (Zaa (s.Zx.take i))))]⟩)
  (fun i=>i≤s.Zx.length) (fun i=>s.Zx.length - i) 0 rfl (Nat.zero_le _) ?_
 rintro i i1;simp -implicitDefEqProofs only [go_sem];refine fork (fun h5=>?_) (fun h5=>?_)
 ·obtain ⟨r,hr⟩:=Z3 h5;have hsm:=hs.rds r (List.mem_of_getElem? hr);have hi1:IntKind.i64.wrap ((i:Int)+1)=((i+1:Nat):Int):=ZV (by simp only [LEN];omega);simp -implicitDefEqProofs only [go_sem,Zag hr,ZX.cells];repeat ((first|refine rq ?_|refine wl ?_|refine gl ?_|refine ZbY r.Zp hsm (by simp -implicitDefEqProofs only [go_sem,ZX.cells_eq];first|done|rfl) ?_|fail);simp -implicitDefEqProofs only [go_sem,Zag hr,ZX.cells])
  rw [hi1];refine ZP (i+1) ?_ (by omega) (by omega);simp [Z7 hr,Zaa,Zaf.cells,List.length_take,List.take_take]
 ·have hi:i=s.Zx.length:=by omega
  subst hi;simp -implicitDefEqProofs only [go_sem,List.take_length];repeat ((first|refine rq ?_|refine wl ?_|refine gl ?_|fail);simp -implicitDefEqProofs only [go_sem,List.take_length])
  try rfl
def ZaF (s:ZN) (hs:ZiE s):=kf (ZsC s hs)
@[go_sem] def hr314:ZW:=hh [[0,1],[1,2],[1,2,5],[1,2,5],[1,2,5],[5],[]]
@[go_sem] def hl314:ZW:=hh [[],[],[1,2,5]]
attribute [go_sem] Go.Proofs.Tryz.results314
theorem Zxt (s:ZN) (id:Int) (hl:s.Zx.length≤1000):ZQ Go.Proofs.Tryz.prog 314 [.d (.agg s.cells),.d (.int .i64 id)] [] [.dead,.dead] (.d (.int .i64 (idR s id))) []:=by
 refine cof Go.Proofs.Tryz.func314 hr314 hl314 [false,false] ?_;simp -implicitDefEqProofs only [go_sem,ZN.cells];refine ZY (α:=Nat) (fun i=>⟨[(1,.d (.int .i64 id)),(2,.ref 0 0),(5,.d (.int .i64 i))],[(0,some (.box [.d (.sl (strs s.Zc.Zv)),.d (.sl (Zae s.Zc.Zm)),.d (.int .i64 s.Zp.ZF),.d (.int .i64 s.Zp.Zy),.d (.int .i64 s.Zp.Zs),.d (.sl (Z9 s.Zp.Ze)),.d (.sl (Zaa s.Zx)),.d (.int .i64 s.ZG.Za.ZF),.d (.int .i64 s.ZG.Za.Zy),.d (.int .i64 s.ZG.Za.Zs),.d (.sl (Z9 s.ZG.Za.Ze)),.d (.sl (strs s.ZG.ZK.Zc.Zv)),.d (.sl (Zae s.ZG.ZK.Zc.Zm)),.d (.int .i64 s.ZG.ZK.Zs),.d (.sl (ints s.ZG.ZK.ZH)),.d (.sl (ints s.ZG.ZK.Zg)),.d (.sl (ints s.ZG.ZK.Zf)),.d (.int .i64 s.ZG.Zy),.d (.bool s.ZL),.d (.bool s.Zd)]))]⟩)
  (fun i=>i≤s.Zx.length∧∀q∈s.Zx.take i,decide (q.Zh=id)=false) (fun i=>s.Zx.length - i) 0 rfl ⟨Nat.zero_le _,by simp⟩ ?_
 rintro i ⟨i1,i2⟩;simp -implicitDefEqProofs only [go_sem];refine fork (fun h5=>?_) (fun h5=>?_)
 ·obtain ⟨r,hr⟩:=Z3 h5;have hi1:IntKind.i64.wrap ((i:Int)+1)=((i+1:Nat):Int):=ZV (by simp only [LEN];omega);by_cases hx:r.Zh=id
  ·have dx:=decide_eq_true hx;have hres:idR s id=i:=Zu6 hr i2 dx;simp -implicitDefEqProofs only [go_sem,Zag hr,dx];repeat ((first|refine rq ?_|refine wl ?_|refine gl ?_|fail);simp -implicitDefEqProofs only [go_sem,Zag hr,dx])
   rw [hres]
  ·have dx:=decide_eq_false hx;simp -implicitDefEqProofs only [go_sem,Zag hr,dx];repeat ((first|refine rq ?_|refine wl ?_|refine gl ?_|fail);simp -implicitDefEqProofs only [go_sem,Zag hr,dx])
   rw [hi1];refine ZP (i+1) rfl ⟨by omega,fun q hq=>?_⟩ (by omega);rw [Z7 hr] at hq;rcases List.mem_append.1 hq with hq|hq
   ·exact i2 q hq
   ·simp only [List.mem_singleton] at hq;subst hq;exact dx
 ·rw [List.take_of_length_le (by omega)] at i2;have hres:idR s id= -1:=Zu7 i2;simp -implicitDefEqProofs only [go_sem];repeat ((first|refine rq ?_|refine wl ?_|refine gl ?_|fail);simp -implicitDefEqProofs only [go_sem])
  rw [hres]
def Zei (s:ZN) (id:Int) (hl:s.Zx.length≤1000):=kf (Zxt s id hl)
end Go.Rx
