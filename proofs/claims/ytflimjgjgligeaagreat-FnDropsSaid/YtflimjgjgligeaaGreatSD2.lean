/-
  Part D2: lemmas on an evaluator over plain data of the model's code, plain laws on lists and numbers, or contracts of functions of the program; each lemma names its conditions.
-/
import Derived.Test.YtflimjgjgligeaaGreatSD1
import Derived.Test.YtflimjgjgligeaaGreatSP5

set_option linter.unusedSimpArgs false
set_option linter.unusedVariables false
set_option maxRecDepth 100000
set_option maxHeartbeats 16000000
set_option linter.defProp false
namespace Go.Rx
open Go
attribute [local irreducible] Req Way WayG Sel Z2 ZQ Zaz cVC Zai ZaO
def ZhV (s:ZN) (id:Int) (i:Nat):List Zaf:=lowR id s.Zx++⟨id,s.Zp⟩::Zsi id (s.Zx.take i)
@[go_sem] def hr293:ZW:=hh [[0,1],[1,2,4],[1,2,4,6],[4,6],[1,2,4,6],[4,6],[1,2,4,6],[4,6],[1,2,4,6],[1,2,4,6,7],[1,2,4,6,7,8],[1,2,4,6,7,8],[1,2,4,6,7,8],[1,2,4,6,7,8],[1,2,4,6,7],[1,4,6,7],[1,4,6,7,9],[1,4,6,7,9],[1,4,6,7,9],[1,4,6,7,9],[4,6,7],[4,6]]
@[go_sem] def hl293:ZW:=hh [[],[],[],[],[],[],[],[],[],[],[1,2,4,6,7,8],[],[],[],[],[],[1,4,6,7,9]]
attribute [go_sem] Go.Proofs.Tryz.results293
theorem Zn9 {ps:List ZR} {pg:List Int} {next:List ZR} {view:Int→List ZR} (s:ZN) (id:Int) (hi:Zap s ps pg next view):ZQ Go.Proofs.Tryz.prog 293 [.d (.agg s.cells),.d (.int .i64 id)] [] [.dead,.dead] (Zci (ZcY s id)) []:=by
 refine cofF Go.Proofs.Tryz.func293 hr293 hl293 ?_;have hs:=hi.small;have h3:=hi.few;unfold Zci ZcY;by_cases g1:1≤id∧id≤9
 ·have d1:=decide_eq_true g1;rw [if_neg (by simpa using g1)];by_cases g2:0≤idR s id
  ·have d2:=decide_eq_true g2;rw [if_pos g2];simp -implicitDefEqProofs only [go_sem,d1,d2,ZN.cells];repeat ((first|refine rq ?_|refine wl ?_|refine gl ?_|refine ZaF s hs (by simp -implicitDefEqProofs only [go_sem,ZN.cells_eq];first|done|rfl) ?_|refine Zbx _ _ _ rfl ?_|refine Zei s id hs.few (by simp -implicitDefEqProofs only [go_sem,ZN.cells_eq];first|done|rfl) ?_|fail);simp -implicitDefEqProofs only [go_sem,d1,d2,ZN.cells])
   try rfl
  ·have d2:=decide_eq_false g2;rw [if_neg g2];by_cases g3:3≤s.Zx.length
   ·have d3:decide ((3:Int)≤(s.Zx.length:Int))=true:=decide_eq_true (by omega);rw [if_pos g3];simp -implicitDefEqProofs only [go_sem,d1,d2,d3,ZN.cells];repeat ((first|refine rq ?_|refine wl ?_|refine gl ?_|refine ZaF s hs (by simp -implicitDefEqProofs only [go_sem,ZN.cells_eq];first|done|rfl) ?_|refine Zbx _ _ _ rfl ?_|refine Zei s id hs.few (by simp -implicitDefEqProofs only [go_sem,ZN.cells_eq];first|done|rfl) ?_|fail);simp -implicitDefEqProofs only [go_sem,d1,d2,d3,ZN.cells])
    try rfl
   ·have d3:decide ((3:Int)≤(s.Zx.length:Int))=false:=decide_eq_false (by omega);rw [if_neg g3];simp -implicitDefEqProofs only [go_sem,d1,d2,d3,ZN.cells];repeat ((first|refine rq ?_|refine wl ?_|refine gl ?_|refine ZaF s hs (by simp -implicitDefEqProofs only [go_sem,ZN.cells_eq];first|done|rfl) ?_|refine Zbx _ _ _ rfl ?_|refine Zei s id hs.few (by simp -implicitDefEqProofs only [go_sem,ZN.cells_eq];first|done|rfl) ?_|fail);simp -implicitDefEqProofs only [go_sem,d1,d2,d3,ZN.cells])
    refine ZY (α:=Nat) (fun i=>⟨[(1,.d (.int .i64 id)),(2,.ref 0 0),(4,.ref 1 0),(6,.ref 12 0),(7,.own 13 0 (lowR id (s.Zx.take i)).length),(8,.d (.int .i64 i))],[(0,some (.box [.d (.sl (strs s.Zc.Zv)),.d (.sl (Zae s.Zc.Zm)),.d (.int .i64 s.Zp.ZF),.d (.int .i64 s.Zp.Zy),.d (.int .i64 s.Zp.Zs),.d (.sl (Z9 s.Zp.Ze)),.d (.sl (Zaa s.Zx)),.d (.int .i64 s.ZG.Za.ZF),.d (.int .i64 s.ZG.Za.Zy),.d (.int .i64 s.ZG.Za.Zs),.d (.sl (Z9 s.ZG.Za.Ze)),.d (.sl (strs s.ZG.ZK.Zc.Zv)),.d (.sl (Zae s.ZG.ZK.Zc.Zm)),.d (.int .i64 s.ZG.ZK.Zs),.d (.sl (ints s.ZG.ZK.ZH)),.d (.sl (ints s.ZG.ZK.Zg)),.d (.sl (ints s.ZG.ZK.Zf)),.d (.int .i64 s.ZG.Zy),.d (.bool s.ZL),.d (.bool s.Zd)])),(1,some (.box [.own 2 0 0,.own 3 0 0,.d (.int .i64 0),.d (.int .i64 0),.d (.int .i64 0),.own 4 0 0,.own 5 0 0,.d (.int .i64 0),.d (.int .i64 0),.d (.int .i64 0),.own 6 0 0,.own 7 0 0,.own 8 0 0,.d (.int .i64 0),.own 9 0 0,.own 10 0 0,.own 11 0 0,.d (.int .i64 0),.d (.bool false),.d (.bool false)])),(2,some (.arr 1 [])),(3,some (.arr 2 [])),(4,some (.arr 2 [])),(5,some (.arr 5 [])),(6,some (.arr 2 [])),(7,some (.arr 1 [])),(8,some (.arr 2 [])),(9,some (.arr 1 [])),(10,some (.arr 1 [])),(11,some (.arr 1 [])),(12,some (.box [.d (.sl (strs s.Zc.Zv)),.d (.sl (Zae s.Zc.Zm)),.d (.int .i64 s.Zp.ZF),.d (.int .i64 s.Zp.Zy),.d (.int .i64 s.Zp.Zs),.d (.sl (Z9 s.Zp.Ze)),.d (.sl (Zaa s.Zx)),.d (.int .i64 s.ZG.Za.ZF),.d (.int .i64 s.ZG.Za.Zy),.d (.int .i64 s.ZG.Za.Zs),.d (.sl (Z9 s.ZG.Za.Ze)),.d (.sl (strs s.ZG.ZK.Zc.Zv)),.d (.sl (Zae s.ZG.ZK.Zc.Zm)),.d (.int .i64 s.ZG.ZK.Zs),.d (.sl (ints s.ZG.ZK.ZH)),.d (.sl (ints s.ZG.ZK.Zg)),.d (.sl (ints s.ZG.ZK.Zf)),.d (.int .i64 s.ZG.Zy),.d (.bool s.ZL),.d (.bool s.Zd)])),(13,some (.arr 5 (Zaa (lowR id (s.Zx.take i)))))]⟩)
     (fun i=>i≤s.Zx.length) (fun i=>s.Zx.length - i) 0 rfl (Nat.zero_le _) ?_
    rintro i i1;have hll:=ZqV (id:=id) (l:=s.Zx.take i);simp only [List.length_take] at hll;have hi1:IntKind.i64.wrap ((i:Int)+1)=((i+1:Nat):Int):=ZV (by simp only [LEN];omega);simp -implicitDefEqProofs only [go_sem];refine fork (fun h5=>?_) (fun h5=>?_)
    ·obtain ⟨r,hr⟩:=Z3 h5;have hst:=ZuF (id:=id) hr;by_cases hx:r.Zh<id
     ·have dx:=decide_eq_true hx;rw [if_pos hx] at hst;simp -implicitDefEqProofs only [go_sem,Zag hr,dx];repeat ((first|refine rq ?_|refine wl ?_|refine gl ?_|fail);simp -implicitDefEqProofs only [go_sem,Zag hr,dx])
      rw [hi1];refine ZP (i+1) ?_ (by omega) (by omega);simp [hst,Zaa,Zaf.cells]
     ·have dx:=decide_eq_false hx;rw [if_neg hx,List.append_nil] at hst;simp -implicitDefEqProofs only [go_sem,Zag hr,dx];repeat ((first|refine rq ?_|refine wl ?_|refine gl ?_|fail);simp -implicitDefEqProofs only [go_sem,Zag hr,dx])
      rw [hi1,←hst];exact ZP (i+1) rfl (by omega) (by omega)
    ·have hi:i=s.Zx.length:=by omega
     subst hi;have hll2:=ZqV (id:=id) (l:=s.Zx);simp -implicitDefEqProofs only [go_sem,List.take_length,ZX.cells];repeat ((first|refine rq ?_|refine wl ?_|refine gl ?_|refine ZbY s.Zp (ZaK hs.mt) (by simp -implicitDefEqProofs only [go_sem,ZX.cells_eq];first|done|rfl) ?_|fail);simp -implicitDefEqProofs only [go_sem,List.take_length,ZX.cells])
     refine ZY (α:=Nat) (fun i=>⟨[(1,.d (.int .i64 id)),(4,.ref 0 0),(6,.ref 11 0),(7,.own 12 0 (ZhV s id i).length),(9,.d (.int .i64 i))],[(0,some (.box [.own 1 0 0,.own 2 0 0,.d (.int .i64 0),.d (.int .i64 0),.d (.int .i64 0),.own 3 0 0,.own 4 0 0,.d (.int .i64 0),.d (.int .i64 0),.d (.int .i64 0),.own 5 0 0,.own 6 0 0,.own 7 0 0,.d (.int .i64 0),.own 8 0 0,.own 9 0 0,.own 10 0 0,.d (.int .i64 0),.d (.bool false),.d (.bool false)])),(1,some (.arr 1 [])),(2,some (.arr 2 [])),(3,some (.arr 2 [])),(4,some (.arr 5 [])),(5,some (.arr 2 [])),(6,some (.arr 1 [])),(7,some (.arr 2 [])),(8,some (.arr 1 [])),(9,some (.arr 1 [])),(10,some (.arr 1 [])),(11,some (.box [.d (.sl (strs s.Zc.Zv)),.d (.sl (Zae s.Zc.Zm)),.d (.int .i64 s.Zp.ZF),.d (.int .i64 s.Zp.Zy),.d (.int .i64 s.Zp.Zs),.d (.sl (Z9 s.Zp.Ze)),.d (.sl (Zaa s.Zx)),.d (.int .i64 s.ZG.Za.ZF),.d (.int .i64 s.ZG.Za.Zy),.d (.int .i64 s.ZG.Za.Zs),.d (.sl (Z9 s.ZG.Za.Ze)),.d (.sl (strs s.ZG.ZK.Zc.Zv)),.d (.sl (Zae s.ZG.ZK.Zc.Zm)),.d (.int .i64 s.ZG.ZK.Zs),.d (.sl (ints s.ZG.ZK.ZH)),.d (.sl (ints s.ZG.ZK.Zg)),.d (.sl (ints s.ZG.ZK.Zf)),.d (.int .i64 s.ZG.Zy),.d (.bool s.ZL),.d (.bool s.Zd)])),(12,some (.arr 5 (Zaa (ZhV s id i))))]⟩)
      (fun i=>i≤s.Zx.length) (fun i=>s.Zx.length - i) 0 (by simp [ZhV,Zsi,Zaa,Zaf.cells]) (Nat.zero_le _) ?_
     rintro i i1;have hhl:=Zu9 (id:=id) (l:=s.Zx.take i);simp only [List.length_take] at hhl;have hl2:(ZhV s id i).length≤8:=by simp only [ZhV,List.length_append,List.length_cons];omega
     have hi1:IntKind.i64.wrap ((i:Int)+1)=((i+1:Nat):Int):=ZV (by simp only [LEN];omega);simp -implicitDefEqProofs only [go_sem];refine fork (fun h5=>?_) (fun h5=>?_)
     ·obtain ⟨r,hr⟩:=Z3 h5;have hst:=Zsh (id:=id) hr;by_cases hx:id<r.Zh
      ·have dx:=decide_eq_true hx;rw [if_pos hx] at hst;have hst2:ZhV s id (i+1)=ZhV s id i++[r]:=by simp [ZhV,hst]
       simp -implicitDefEqProofs only [go_sem,Zag hr,dx];repeat ((first|refine rq ?_|refine wl ?_|refine gl ?_|fail);simp -implicitDefEqProofs only [go_sem,Zag hr,dx])
       rw [hi1];refine ZP (i+1) ?_ (by omega) (by omega);simp [hst2,Zaa,Zaf.cells]
      ·have dx:=decide_eq_false hx;rw [if_neg hx,List.append_nil] at hst;have hst2:ZhV s id (i+1)=ZhV s id i:=by simp [ZhV,hst]
       simp -implicitDefEqProofs only [go_sem,Zag hr,dx];repeat ((first|refine rq ?_|refine wl ?_|refine gl ?_|fail);simp -implicitDefEqProofs only [go_sem,Zag hr,dx])
       rw [hi1,←hst2];exact ZP (i+1) rfl (by omega) (by omega)
     ·have hi:i=s.Zx.length:=by omega
      subst hi;have hall:ZhV s id s.Zx.length=(Zce s id).Zx:=by rw [ZhV,List.take_length];rfl
      rw [hall];simp -implicitDefEqProofs only [go_sem,ZfI];repeat ((first|refine rq ?_|refine wl ?_|refine gl ?_|fail);simp -implicitDefEqProofs only [go_sem,ZfI])
      try rfl
 ·have d1:=decide_eq_false g1;rw [if_pos (by simpa using g1)];simp -implicitDefEqProofs only [go_sem,d1,ZN.cells];repeat ((first|refine rq ?_|refine wl ?_|refine gl ?_|refine ZaF s hs (by simp -implicitDefEqProofs only [go_sem,ZN.cells_eq];first|done|rfl) ?_|refine Zbx _ _ _ rfl ?_|fail);simp -implicitDefEqProofs only [go_sem,d1,ZN.cells])
  try rfl
def Ziq {ps:List ZR} {pg:List Int} {next:List ZR} {view:Int→List ZR} (s:ZN) (id:Int) (hi:Zap s ps pg next view):=kf (Zn9 s id hi)
end Go.Rx
