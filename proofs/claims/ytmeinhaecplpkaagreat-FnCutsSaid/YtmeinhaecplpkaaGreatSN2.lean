/-
  Part N2: lemmas on an evaluator over plain data of the model's code, plain laws on lists and numbers, or contracts of functions of the program; each lemma names its conditions.
-/
import Derived.Test.YtmeinhaecplpkaaGreatSA1
import Derived.Test.YtmeinhaecplpkaaGreatSD6
import Derived.Test.YtmeinhaecplpkaaGreatSE1
import Derived.Test.YtmeinhaecplpkaaGreatSE2
import Derived.Test.YtmeinhaecplpkaaGreatSE4
import Derived.Test.YtmeinhaecplpkaaGreatSE6
import Derived.Test.YtmeinhaecplpkaaGreatSKI
import Derived.Test.YtmeinhaecplpkaaGreatSN1
import Derived.Test.YtmeinhaecplpkaaGreatSP1
import Derived.Test.YtmeinhaecplpkaaGreatSP2
import Derived.Test.YtmeinhaecplpkaaGreatSP3
import Derived.Test.YtmeinhaecplpkaaGreatSP5
import Derived.Test.YtmeinhaecplpkaaGreatSR0
import Derived.Test.YtmeinhaecplpkaaGreatSSort
import Derived.Test.YtmeinhaecplpkaaGreatSTryzShelfP

set_option linter.unusedSimpArgs false
set_option linter.unusedVariables false
set_option maxRecDepth 100000
set_option maxHeartbeats 16000000
set_option linter.defProp false
namespace Go.Rx
open Go Go.RowKit
theorem ZBE {n:Nat} {o:AObj} (h:ZkM o):ZhJ [(n,o)]:=fun p hp=>by simp at hp;subst hp;exact h
section
variable {P:Program} {h:Heap} {tb:Nat} {f:FuncId} {args:List V} {K:OK} {xs:List D} {ls:List Nat} {res:V} {H':List (Nat×AObj)}
theorem ZBG {n off len k off' len':Nat} (xs:List D):ZbL (.own n off len::xs.map Arg.dat) (.own k off' len'::xs.map fun _=>V.dead)=fun j=>bif k==j then some n else none:=by
 funext j;simp only [ZbL];rw [Zf8]
theorem ZBC {n off len m:Nat} {ys:List (List D)} {rest:List V} (hn:h n=some (.arr m ys)) (hr:toDs h rest=some (xs,ls)):
  ZbT h [true] (.own n off len::rest)=some (.own n off len::xs.map .dat,[n],ls):=by
 simp only [ZbT,List.drop_succ_cons,List.drop_nil,Zcm hr,List.headD_cons,Zb8,hn]
theorem ZBF {n off len m:Nat} {ys ys':List (List D)} {rest:List V} {r:V} (hn:h n=some (.arr m ys)) (hr:toDs h rest=some (xs,ls)) (hnl:ls.contains n=false)
  (hc:ZQ P f (.own 0 off len::xs.map .d) [(0,.arr m ys)] (.own 0 off len::xs.map fun _=> .dead) r [(0,.arr m ys')]) (hl:ys.length=ys'.length) (hfl:ZcQ r) (hfo:ZkM (.arr m ys'))
  (hk:K (renV (fun j=>bif 0==j then some n else none) r) [(n,none),(n,some (.arr m ys'))]):Z2 P h tb f (.own n off len::rest) K:=by
 have hidx:idx [n] n=some 0:=by simp [idx]
 have hb:back tb (.own n off len::xs.map Arg.dat) (.own 0 off len::xs.map fun _=>V.dead) [(0,.arr m ys')]=fun j=>bif 0==j then some n else none:=by
  funext j
  unfold back
  rw [ZBG]
  cases j with
  |zero=>rfl
  |succ j=>rfl
 refine ⟨[],[true],_,_,_,.own 0 off len::xs.map fun _=> .dead,r,[(0,.arr m ys')],ZBC hn hr,?_,?_,?_,?_,.inl ⟨.inr ⟨hfl,ZBE hfo⟩,?_⟩⟩
 ·simp only [List.filterMap_cons,Arg.name?,Zft,nodup,List.all_cons,List.all_nil,hnl]
  simp
 ·have e1:(xs.map Arg.dat).map (argV [n])=xs.map .d:=by rw [List.map_map];rfl
  simp only [List.map_cons,e1,argV,renC,hidx,objs,hn,renO]
  exact hc
 ·simp only [Zaw,hget,Zza,ZdZ,ZcC]
  simp [nodup]
 ·refine ⟨?_,ZeH xs⟩
  simp [Zt6,hn,hget,hl]
 ·rw [Zga,hb]
  simpa [renO] using hk
end
section
variable {w:World} {ok:Nat→Prop} {lam:Nat→Option Nat} {h:Heap}
end
end Go.Rx
namespace Go.Rx
open Go
attribute [local irreducible] Req Way WayG Sel Z2 ZQ Zaz cVC Zai ZaO
theorem ZBI (l:List Int) (hl:l.length≤1048576):ZQ Go.Proofs.Tryz.prog 122 [.own 0 0 l.length] [(0,.arr 1 (ints l))] [.own 0 0 l.length] (.tup []) [(0,.arr 1 (ints (ZaP l)))]:=
 ZzU Go.Proofs.Tryz.lays189 ⟨_,Go.Proofs.Tryz.func122,by kernel_rfl,by kernel_rfl⟩ l (by omega)
theorem ZBH {h:Heap} {tb:Nat} {K:OK} {n:Nat} (l:List Int) (hl:l.length≤1048576) (hn:h n=some (.arr 1 (ints l)))
  (hk:K (.tup []) [(n,none),(n,some (.arr 1 (ints (ZaP l))))]):Z2 Go.Proofs.Tryz.prog h tb 122 [.own n 0 l.length] K:=
 ZBF (ls:=[]) (xs:=[]) hn rfl rfl (ZBI l hl) (by simp [ints,Zbw]) (Ze9 rfl) Zhu hk
@[go_sem] def hr49:ZW:=hh [[0,1],[1,2],[6],[],[6],[6]]
@[go_sem] def hl49:ZW:=hh []
attribute [go_sem] Go.Proofs.Tryz.results49
theorem ZBD (d:ZT) (root:Int) (h1:d.Zv.length≤1048576) (h2:d.Zm.length≤1048576) (hsm:∀p,(ZU d p).length≤1048576):ZQ Go.Proofs.Tryz.prog 49 [.d (.agg d.cells),.d (.int .i64 root)] [] [.dead,.dead] (ZqN d root) []:=by
 refine cofF Go.Proofs.Tryz.func49 hr49 hl49 ?_
 have hl:= @ZuH d root
 have hS:=ZuG (d:=d) (root:=root)
 unfold ZqN
 simp -implicitDefEqProofs only [go_sem,ZT.cells]
 refine ZcM (xs:=[.agg d.cells,.int .i64 root]) rfl (ZAX d root h1 h2 hsm) rfl (.inl rfl) ?_
 cases hb:(ZkR d root).bad
 ·have hb2:(Zc1 d root).bad=false:=hS.1▸hb
  have hpg:=(hS.2 hb2).1
  have hss:(ints (ZaP (Zc1 d root).pages)).take (Zc1 d root).pages.length=ints (ZaP (Zc1 d root).pages):=List.take_of_length_le (by simp [ints,Zbw])
  rw [if_neg (by rw [hb2];simp)]
  simp -implicitDefEqProofs only [go_sem,ZzW,hb,hpg]
  repeat ((first|refine rq ?_|refine wl ?_|refine gl ?_|refine ZBH (Zc1 d root).pages (by omega) rfl ?_|fail);simp -implicitDefEqProofs only [go_sem,ZzW,hb,hpg])
  rw [hss]
 ·have hb2:(Zc1 d root).bad=true:=hS.1▸hb
  rw [if_pos hb2]
  simp -implicitDefEqProofs only [go_sem,ZzW,hb]
  repeat ((first|refine rq ?_|refine wl ?_|refine gl ?_|fail);simp -implicitDefEqProofs only [go_sem,ZzW,hb])
  try rfl
def ki_PagesOf (d:ZT) (root:Int) (h1:d.Zv.length≤1048576) (h2:d.Zm.length≤1048576) (hsm:∀p,(ZU d p).length≤1048576):=kf (ZBD d root h1 h2 hsm)
end Go.Rx
