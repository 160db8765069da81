/-
  Part N9: lemmas on an evaluator over plain data of the model's code, plain laws on lists and numbers, or contracts of functions of the program; each lemma names its conditions.
-/
import Derived.Test.YtmeinhaecplpkaaGreatSA1
import Derived.Test.YtmeinhaecplpkaaGreatSA4
import Derived.Test.YtmeinhaecplpkaaGreatSB1
import Derived.Test.YtmeinhaecplpkaaGreatSD6
import Derived.Test.YtmeinhaecplpkaaGreatSE1
import Derived.Test.YtmeinhaecplpkaaGreatSE4
import Derived.Test.YtmeinhaecplpkaaGreatSE6
import Derived.Test.YtmeinhaecplpkaaGreatSG3
import Derived.Test.YtmeinhaecplpkaaGreatSN7
import Derived.Test.YtmeinhaecplpkaaGreatSN8
import Derived.Test.YtmeinhaecplpkaaGreatSP1
import Derived.Test.YtmeinhaecplpkaaGreatSP2
import Derived.Test.YtmeinhaecplpkaaGreatSP3
import Derived.Test.YtmeinhaecplpkaaGreatSP4
import Derived.Test.YtmeinhaecplpkaaGreatSP5
import Derived.Test.YtmeinhaecplpkaaGreatSR0

set_option linter.unusedSimpArgs false
set_option linter.unusedVariables false
set_option maxRecDepth 100000
set_option maxHeartbeats 16000000
set_option linter.defProp false
namespace Go.Rx
open Go
attribute [local irreducible] Req Way WayG Sel Z2 ZQ Zaz cVC Zai ZaO
@[go_sem] def hr50:ZW:=hh [[0,1,2],[2,3,4,6]]
@[go_sem] def hl50:ZW:=hh []
attribute [go_sem] Go.Proofs.Tryz.results50
theorem ZB2 (d:ZT) (m:ZX) (o:Int) (hd:Zck d) (hm:ZaD m) (hl:(Z5 m.Ze).length≤1048576) (hs:(Zdq d m o).ZH.Pairwise (·< ·)):ZQ Go.Proofs.Tryz.prog 50 [.d (.agg d.cells),.d (.agg m.cells),.d (.int .i64 o)] [] [.dead,.dead,.dead] (.d (.agg (ZlK d m o).cells)) []:=by
 refine cofF Go.Proofs.Tryz.func50 hr50 hl50 ?_
 simp -implicitDefEqProofs only [go_sem,ZT.cells,ZX.cells,ZS.cells]
 repeat ((first|refine rq ?_|refine wl ?_|refine gl ?_|refine ZBY m hm (by simp -implicitDefEqProofs only [go_sem,ZX.cells_eq];first|done|rfl) ?_|refine ki_WorkNew d m o hd hm.1 hl hs (by simp -implicitDefEqProofs only [go_sem,ZT.cells_eq,ZX.cells_eq];first|done|rfl) ?_|fail);simp -implicitDefEqProofs only [go_sem,ZT.cells,ZX.cells,ZS.cells])
 try rfl
def ki_Begin (d:ZT) (m:ZX) (o:Int) (hd:Zck d) (hm:ZaD m) (hl:(Z5 m.Ze).length≤1048576) (hs:(Zdq d m o).ZH.Pairwise (·< ·)):=kf (ZB2 d m o hd hm hl hs)
theorem ZB1 (d:ZT) (root:Int) (hb:(Zc1 d root).bad=false) (h1:d.Zv.length≤1048576) (h2:d.Zm.length≤1048576) (hsm:∀p,(ZU d p).length≤1048576):
  ZQ Go.Proofs.Tryz.prog 52 [.d (.agg d.cells),.d (.int .i64 root)] [] [.dead,.dead] (.tup [.own 0 0 (Zc1 d root).pages.length,.d (.bool true)]) [(0,.arr 1 (ints (ZaP (Zc1 d root).pages)))]:=by
 have hl:= @ZuH d root
 refine cof Go.Proofs.Tryz.func52 hr52 hl52 [false,false] ?_
 simp -implicitDefEqProofs only [go_sem,ZT.cells]
 refine ZcM (xs:=[.agg d.cells,.int .i64 root]) rfl (Zvt d root h1 h2 hsm) rfl (.inl rfl) ?_
 simp -implicitDefEqProofs only [go_sem,ZaI,hb]
 repeat ((first|refine rq ?_|refine wl ?_|refine gl ?_|refine Zhi (Zc1 d root).pages (by omega) (by simp -implicitDefEqProofs only [go_sem,Zby];first|done|rfl) ?_|fail);simp -implicitDefEqProofs only [go_sem,ZaI,hb])
theorem ZB3 {h:Heap} {tb:Nat} {K:OK} {args:List V} {ls:List Nat} (d:ZT) (root:Int) (pg:List Int) {ps:List ZR} (ht:Zdp (rdW d) root ps pg) (h1:d.Zv.length≤1048576) (h2:d.Zm.length≤1048576) (hsm:∀p,(ZU d p).length≤1048576) (hg:toDs h args=some ([.agg d.cells,.int .i64 root],ls))
  (hk:K (.tup [.own tb 0 pg.length,.d (.bool true)]) [(tb,some (.arr 1 (ints (ZaP pg))))]):Z2 Go.Proofs.Tryz.prog h tb 52 args K:=by
 obtain ⟨k,c,hlk⟩:=ZiY ht
 have hc:=ZB1 d root (by rw [hlk]) h1 h2 hsm
 rw [hlk] at hc
 exact ZcM hg hc rfl (.inr ⟨Ze9 rfl,ZdO Zhu Zd6⟩) hk
end Go.Rx
