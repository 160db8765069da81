/-
  Part A5: lemmas on an evaluator over plain data of the model's code, plain laws on lists and numbers, or contracts of functions of the program; each lemma names its conditions.
-/
import Derived.Test.YtflimjgjgligeaaGreatSA3
import Derived.Test.YtflimjgjgligeaaGreatSE6
import Derived.Test.YtflimjgjgligeaaGreatSP1

set_option linter.unusedSimpArgs false
set_option linter.unusedVariables false
namespace Go.Rx
open Go
attribute [local irreducible] Req Way WayG Sel Z2 ZQ Zaz cVC Zai ZaO
@[go_sem] def hr175:ZW:=hh [[0],[0],[],[0]]
@[go_sem] def hl175:ZW:=hh []
attribute [go_sem] Go.Proofs.Tryz.results175
@[go_sem] def hr170:ZW:=hh [[0],[0],[],[0]]
@[go_sem] def hl170:ZW:=hh []
attribute [go_sem] Go.Proofs.Tryz.results170
@[go_sem] def hr171:ZW:=hh [[0],[0],[],[0]]
@[go_sem] def hl171:ZW:=hh []
attribute [go_sem] Go.Proofs.Tryz.results171
@[go_sem] def hr89:ZW:=hh [[0],[1,2]]
@[go_sem] def hl89:ZW:=hh []
attribute [go_sem] Go.Proofs.Tryz.results89
@[go_sem] def hr98:ZW:=hh [[0],[1,2]]
@[go_sem] def hl98:ZW:=hh []
attribute [go_sem] Go.Proofs.Tryz.results98
@[go_sem] def hr231:ZW:=hh [[0,1],[0,1],[0,1,7,8],[0,1,7,8],[0,1,5,7,8],[5],[0,1,7,8],[]]
@[go_sem] def hl231:ZW:=hh [[],[],[0,1,7,8]]
attribute [go_sem] Go.Proofs.Tryz.results231
@[go_sem] def hr168:ZW:=hh [[0,1],[0,1]]
@[go_sem] def hl168:ZW:=hh []
attribute [go_sem] Go.Proofs.Tryz.results168
@[go_sem] def hr167:ZW:=hh [[0],[0]]
@[go_sem] def hl167:ZW:=hh []
attribute [go_sem] Go.Proofs.Tryz.results167
@[go_sem] def hr169:ZW:=hh [[0,1],[1,2]]
@[go_sem] def hl169:ZW:=hh []
attribute [go_sem] Go.Proofs.Tryz.results169
@[go_sem] def hr88:ZW:=hh [[0],[1],[],[1]]
@[go_sem] def hl88:ZW:=hh []
attribute [go_sem] Go.Proofs.Tryz.results88
@[go_sem] def hr108:ZW:=hh [[0],[1,2],[1,2,4],[2,4,5],[1,2,4,5],[1,2,4],[2,4,5],[1,2,4,5],[2,4],[2,4,5],[2,4,5]]
@[go_sem] def hl108:ZW:=hh []
attribute [go_sem] Go.Proofs.Tryz.results108
def wrO (d:ZT) (p:Int) (t:List UInt8):List GPut:=match Zak d p t with
 |some _=>d.Zm++[⟨p,t⟩]
 |none=>d.Zm
@[go_sem] def hr109:ZW:=hh [[0,1,2],[1,2,3,6],[1,2,3,6,8],[6,8],[1,2,6,8],[6,8]]
@[go_sem] def hl109:ZW:=hh []
attribute [go_sem] Go.Proofs.Tryz.results109
@[go_sem] def hr107:ZW:=hh [[0],[1],[],[1],[1,4],[1],[1,4],[1,4],[1,4,19,20,21],[1,4,19,20,21],[1,4,5,6,19,20,21],[1,4,5,19,20,21],[1,4,5,19,20,21],[1,4,5,19,20,21],[1,4,19,20,21],[4]]
@[go_sem] def hl107:ZW:=hh [[],[],[],[],[],[],[],[],[1,4,19,20,21]]
attribute [go_sem] Go.Proofs.Tryz.results107
@[go_sem] def hr40:ZW:=hh [[0,1],[2,3,4],[2,4,6,7],[2,4],[2,4,6],[2,4,6,8,9],[2,4],[2,4,6,8,9],[2,4,7,8,9,10],[2,4],[4,8,9,10],[4,8,9]]
@[go_sem] def hl40:ZW:=hh []
attribute [go_sem] Go.Proofs.Tryz.results40
end Go.Rx
