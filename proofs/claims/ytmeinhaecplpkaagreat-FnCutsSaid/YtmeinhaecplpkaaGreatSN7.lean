/-
  Part N7: lemmas on an evaluator over plain data of the model's code, plain laws on lists and numbers, or contracts of functions of the program; each lemma names its conditions.
-/
import Derived.Test.YtmeinhaecplpkaaGreatSA1
import Derived.Test.YtmeinhaecplpkaaGreatSE1
import Derived.Test.YtmeinhaecplpkaaGreatSE2
import Derived.Test.YtmeinhaecplpkaaGreatSE4
import Derived.Test.YtmeinhaecplpkaaGreatSE6
import Derived.Test.YtmeinhaecplpkaaGreatSKI
import Derived.Test.YtmeinhaecplpkaaGreatSN2
import Derived.Test.YtmeinhaecplpkaaGreatSP2
import Derived.Test.YtmeinhaecplpkaaGreatSP4
import Derived.Test.YtmeinhaecplpkaaGreatSR0

set_option linter.unusedSimpArgs false
set_option linter.unusedVariables false
set_option maxRecDepth 100000
set_option maxHeartbeats 16000000
set_option linter.defProp false
namespace Go.Rx
open Go
attribute [local irreducible] Req Way WayG Sel Z2 ZQ Zaz cVC Zai ZaO
theorem ZBU {n:Int} {l:List Zaf} {i:Nat} {r:Zaf} (h:l[i]? =some r):Ze3 n (l.take (i+1))=if r.Zp.ZF<Ze3 n (l.take i) then r.Zp.ZF else Ze3 n (l.take i):=by
 rw [Z7 h,Ze3,List.foldl_append];rfl
@[go_sem] def hr51:ZW:=hh [[0],[1],[1,3],[3,10,11,12],[3,10,11,12],[3,5,10,11,12],[3,10,11,12],[3]]
@[go_sem] def hl51:ZW:=hh [[],[],[],[3,10,11,12]]
attribute [go_sem] Go.Proofs.Tryz.results51
theorem ZBW (s:ZN) (hr:s.Zx.length≤1048576):ZQ Go.Proofs.Tryz.prog 51 [.d (.agg s.cells)] [] [.dead] (.d (.int .i64 (Zco s))) []:=by
 refine cof Go.Proofs.Tryz.func51 hr51 hl51 [false] ?_
 simp -implicitDefEqProofs only [go_sem,ZN.cells]
 repeat ((first|refine rq ?_|fail);simp -implicitDefEqProofs only [go_sem,ZN.cells])
 refine ZY (α:=Nat) (fun i=>⟨[(3,.d (.int .i64 (Ze3 s.Zp.ZF (s.Zx.take i)))),(10,.d (.sl (Zaa s.Zx))),(11,.d (.int .i64 s.Zx.length)),(12,.d (.int .i64 i))],[]⟩)
  (fun i=>i≤s.Zx.length) (fun i=>s.Zx.length - i) 0 rfl (Nat.zero_le _) ?_
 rintro i i1
 have hi1:IntKind.i64.wrap ((i:Int)+1)=((i+1:Nat):Int):=ZV (by simp only [LEN];omega)
 simp -implicitDefEqProofs only [go_sem]
 refine fork (fun h5=>?_) (fun h5=>?_)
 ·obtain ⟨r,hrr⟩:=Z3 h5
  have hst:=ZBU (n:=s.Zp.ZF) hrr
  simp -implicitDefEqProofs only [go_sem,Zag hrr,if_true]
  repeat ((first|refine rq ?_|refine wl ?_|refine gl ?_|fail);simp -implicitDefEqProofs only [go_sem,Zag hrr,if_true])
  rw [hi1]
  refine ZP (i+1) ?_ (by omega) (by omega)
  rw [hst]
 ·rw [List.take_of_length_le (by omega)]
  simp -implicitDefEqProofs only [go_sem]
  repeat ((first|refine rq ?_|refine wl ?_|refine gl ?_|fail);simp -implicitDefEqProofs only [go_sem])
  try rfl
def ZBZ (s:ZN) (hr:s.Zx.length≤1048576):=kf (ZBW s hr)
@[go_sem] def hr187:ZW:=hh [[0],[0],[0],[0],[0,3],[0,3],[0,3],[0,3],[0,3,4],[0,3,4,5],[0,3,4,5],[0,3,4,5],[0,3,4,5],[0,3,4,5],[0,3],[0,3],[0]]
@[go_sem] def hl187:ZW:=hh [[],[],[],[],[0,3],[],[],[],[],[0,3,4,5]]
attribute [go_sem] Go.Proofs.Tryz.results187
theorem ZBX (l:List Int) (hl:l.length≤1048576) (ha:l.Pairwise (·< ·)):ZQ Go.Proofs.Tryz.prog 187 [.own 0 0 l.length] [(0,.arr 1 (ints l))] [.own 0 0 l.length] (.own 0 0 l.length) [(0,.arr 1 (ints l))]:=by
 refine cof Go.Proofs.Tryz.func187 hr187 hl187 [true] ?_
 simp -implicitDefEqProofs only [go_sem]
 refine fork (fun h1=>?_) (fun h1=>?_)
 ·simp -implicitDefEqProofs only [go_sem]
 ·simp -implicitDefEqProofs only [go_sem]
  refine ZY (α:=Nat) (fun k=>⟨[(0,.own 0 0 l.length),(3,.d (.int .i64 k))],[(0,some (.arr 1 (ints l)))]⟩)
   (fun k=>1≤k∧k≤l.length) (fun k=>l.length - k) 1 rfl ⟨Nat.le_refl _,by omega⟩ ?_
  rintro k ⟨k1,k2⟩
  have hk1:IntKind.i64.wrap ((k:Int)+1)=((k+1:Nat):Int):=ZV (by simp only [LEN];omega)
  have hk2:IntKind.i64.wrap ((k:Int) - 1)=((k - 1:Nat):Int):=by rw [Zad (by omega) (by omega)];omega
  simp -implicitDefEqProofs only [go_sem]
  refine fork (fun h5=>?_) (fun h5=>?_)
  ·obtain ⟨x,hx⟩:=Z3 h5
   obtain ⟨y,hy⟩:∃y,l[k - 1]? =some y:=⟨_,List.getElem?_eq_getElem (by omega)⟩
   have hlt:y<x:=by
    obtain ⟨a1,a2⟩:=List.getElem?_eq_some_iff.1 hx
    obtain ⟨b1,b2⟩:=List.getElem?_eq_some_iff.1 hy
    have:=List.pairwise_iff_getElem.1 ha (k - 1) k b1 a1 (by omega)
    rwa [a2,b2] at this
   have d1:decide (x=y)=false:=decide_eq_false (by omega)
   simp -implicitDefEqProofs only [go_sem,ZO hx,ZO hy,hk2,d1]
   repeat ((first|refine rq ?_|refine wl ?_|refine gl ?_|fail);simp -implicitDefEqProofs only [go_sem,ZO hx,ZO hy,hk2,d1])
   rw [hk1]
   exact ZP (k+1) rfl ⟨by omega,by omega⟩ (by omega)
  ·simp -implicitDefEqProofs only [go_sem]
theorem km_Compact {h:Heap} {tb:Nat} {K:OK} {n:Nat} (l:List Int) (hl:l.length≤1048576) (ha:l.Pairwise (·< ·)) (hn:h n=some (.arr 1 (ints l)))
  (hk:K (.own n 0 l.length) [(n,none),(n,some (.arr 1 (ints l)))]):Z2 Go.Proofs.Tryz.prog h tb 187 [.own n 0 l.length] K:=
 ZBF (ls:=[]) (xs:=[]) hn rfl rfl (ZBX l hl ha) rfl (.own _ _ _) Zhu hk
@[go_sem] def hr123:ZW:=hh [[0],[1,2],[1,2,3],[1,2,3,7,8,9],[1,2,3,7,8,9],[1,2,3,5,7,8,9],[1,2,3,7,8,9],[1,2,3],[1,2]]
@[go_sem] def hl123:ZW:=hh [[],[],[],[1,2,3,7,8,9]]
attribute [go_sem] Go.Proofs.Tryz.results123
theorem ZBV (m:ZX) (hm:ZaD m):ZQ Go.Proofs.Tryz.prog 123 [.d (.agg m.cells)] [] [.dead] (.d (.agg m.cells)) []:=by
 refine cofF Go.Proofs.Tryz.func123 hr123 hl123 ?_
 obtain ⟨hm1,hm2⟩:=hm
 simp -implicitDefEqProofs only [go_sem,ZX.cells]
 repeat ((first|refine rq ?_|refine wl ?_|refine gl ?_|fail);simp -implicitDefEqProofs only [go_sem,ZX.cells])
 refine ZY (α:=Nat) (fun i=>⟨[(1,.ref 0 0),(2,.ref 1 0),(3,.own 3 0 i),(7,.d (.sl (Z9 m.Ze))),(8,.d (.int .i64 m.Ze.length)),(9,.d (.int .i64 i))],[(0,some (.box [.d (.int .i64 m.ZF),.d (.int .i64 m.Zy),.d (.int .i64 m.Zs),.d (.sl (Z9 m.Ze))])),(1,some (.box [.d (.int .i64 0),.d (.int .i64 0),.d (.int .i64 0),.own 2 0 0])),(2,some (.arr 2 [])),(3,some (.arr 2 (Z9 (m.Ze.take i))))]⟩)
  (fun i=>i≤m.Ze.length) (fun i=>m.Ze.length - i) 0 rfl (Nat.zero_le _) ?_
 rintro i i1
 have hi1:IntKind.i64.wrap ((i:Int)+1)=((i+1:Nat):Int):=ZV (by simp only [LEN];omega)
 simp -implicitDefEqProofs only [go_sem]
 refine fork (fun h5=>?_) (fun h5=>?_)
 ·obtain ⟨p,hp⟩:=Z3 h5
  have hpl:p.Zv.length≤1048576:=hm2 p (List.mem_of_getElem? hp)
  simp -implicitDefEqProofs only [go_sem,Z4 hp]
  repeat ((first|refine rq ?_|refine wl ?_|refine gl ?_|refine ZBe p.Zv (by omega) rfl ?_|fail);simp -implicitDefEqProofs only [go_sem,Z4 hp])
  rw [hi1]
  refine ZP (i+1) ?_ (by omega) (by omega)
  simp [Z7 hp,Z9,Zau.cells,List.take_take]
 ·have hi:i=m.Ze.length:=by omega
  subst hi
  simp -implicitDefEqProofs only [go_sem,List.take_length]
  repeat ((first|refine rq ?_|refine wl ?_|refine gl ?_|fail);simp -implicitDefEqProofs only [go_sem,List.take_length])
  rfl
def ZBY (m:ZX) (hm:ZaD m):=kf (ZBV m hm)
end Go.Rx
