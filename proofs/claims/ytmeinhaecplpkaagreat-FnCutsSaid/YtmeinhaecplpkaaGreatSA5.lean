/-
  Part A5: lemmas on an evaluator over plain data of the model's code, plain laws on lists and numbers, or contracts of functions of the program; each lemma names its conditions.
-/
import Derived.Test.YtmeinhaecplpkaaGreatSA3
import Derived.Test.YtmeinhaecplpkaaGreatSE6
import Derived.Test.YtmeinhaecplpkaaGreatSP1

set_option linter.unusedSimpArgs false
set_option linter.unusedVariables false
namespace Go.Rx
open Go
attribute [local irreducible] Req Way WayG Sel Z2 ZQ Zaz cVC Zai ZaO
@[go_sem] def hr136:ZW:=hh [[0],[0],[],[0]]
@[go_sem] def hl136:ZW:=hh []
attribute [go_sem] Go.Proofs.Tryz.results136
@[go_sem] def hr170:ZW:=hh [[0],[0],[],[0]]
@[go_sem] def hl170:ZW:=hh []
attribute [go_sem] Go.Proofs.Tryz.results170
@[go_sem] def hr171:ZW:=hh [[0],[0],[],[0]]
@[go_sem] def hl171:ZW:=hh []
attribute [go_sem] Go.Proofs.Tryz.results171
@[go_sem] def hr98:ZW:=hh [[0],[1,2]]
@[go_sem] def hl98:ZW:=hh []
attribute [go_sem] Go.Proofs.Tryz.results98
@[go_sem] def hr76:ZW:=hh [[0],[1,2]]
@[go_sem] def hl76:ZW:=hh []
attribute [go_sem] Go.Proofs.Tryz.results76
end Go.Rx
namespace Go.Rx
open Go
attribute [local irreducible] Req Way WayG Sel Z2 ZQ Zaz cVC Zai ZaO
@[go_sem] def hr211:ZW:=hh [[0,1],[0,1],[0,1,7,8],[0,1,7,8],[0,1,5,7,8],[5],[0,1,7,8],[]]
@[go_sem] def hl211:ZW:=hh [[],[],[0,1,7,8]]
attribute [go_sem] Go.Proofs.Tryz.results211
@[go_sem] def hr168:ZW:=hh [[0,1],[0,1]]
@[go_sem] def hl168:ZW:=hh []
attribute [go_sem] Go.Proofs.Tryz.results168
@[go_sem] def hr167:ZW:=hh [[0],[0]]
@[go_sem] def hl167:ZW:=hh []
attribute [go_sem] Go.Proofs.Tryz.results167
@[go_sem] def hr169:ZW:=hh [[0,1],[1,2]]
@[go_sem] def hl169:ZW:=hh []
attribute [go_sem] Go.Proofs.Tryz.results169
@[go_sem] def hr97:ZW:=hh [[0],[1],[],[1]]
@[go_sem] def hl97:ZW:=hh []
attribute [go_sem] Go.Proofs.Tryz.results97
@[go_sem] def hr17:ZW:=hh [[0],[1,2],[1,2,4],[2,4,5],[1,2,4,5],[1,2,4],[2,4,5],[1,2,4,5],[2,4],[2,4,5],[2,4,5]]
@[go_sem] def hl17:ZW:=hh []
attribute [go_sem] Go.Proofs.Tryz.results17
def wrO (d:ZT) (p:Int) (t:List UInt8):List GPut:=match Zak d p t with
 |some _=>d.Zm++[⟨p,t⟩]
 |none=>d.Zm
@[go_sem] def hr114:ZW:=hh [[0,1,2],[1,2,3,6],[1,2,3,6,8],[6,8],[1,2,6,8],[6,8]]
@[go_sem] def hl114:ZW:=hh []
attribute [go_sem] Go.Proofs.Tryz.results114
@[go_sem] def hr113:ZW:=hh [[0],[1],[],[1],[1,4],[1],[1,4],[1,4],[1,4,19,20,21],[1,4,19,20,21],[1,4,5,6,19,20,21],[1,4,5,19,20,21],[1,4,5,19,20,21],[1,4,5,19,20,21],[1,4,19,20,21],[4]]
@[go_sem] def hl113:ZW:=hh [[],[],[],[],[],[],[],[],[1,4,19,20,21]]
attribute [go_sem] Go.Proofs.Tryz.results113
end Go.Rx
namespace Go.Rx
open Go
attribute [local irreducible] Req Way WayG Sel Z2 ZQ Zaz cVC Zai ZaO
@[go_sem] def hr44:ZW:=hh [[0,1],[2,3,4],[2,4,6,7],[2,4],[2,4,6],[2,4,6,8,9],[2,4],[2,4,6,8,9],[2,4,7,8,9,10],[2,4],[4,8,9,10],[4,8,9]]
@[go_sem] def hl44:ZW:=hh []
attribute [go_sem] Go.Proofs.Tryz.results44
end Go.Rx
