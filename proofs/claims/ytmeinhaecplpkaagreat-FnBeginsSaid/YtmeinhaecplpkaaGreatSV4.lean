/-
  Part V4: lemmas on an evaluator over plain data of the model's code, plain laws on lists and numbers, or contracts of functions of the program; each lemma names its conditions.
-/
import Derived.Test.YtmeinhaecplpkaaGreatSA1
import Derived.Test.YtmeinhaecplpkaaGreatSA8
import Derived.Test.YtmeinhaecplpkaaGreatSB1
import Derived.Test.YtmeinhaecplpkaaGreatSB4
import Derived.Test.YtmeinhaecplpkaaGreatSC3
import Derived.Test.YtmeinhaecplpkaaGreatSC4
import Derived.Test.YtmeinhaecplpkaaGreatSD1
import Derived.Test.YtmeinhaecplpkaaGreatSE1
import Derived.Test.YtmeinhaecplpkaaGreatSE6
import Derived.Test.YtmeinhaecplpkaaGreatSG3
import Derived.Test.YtmeinhaecplpkaaGreatSN1
import Derived.Test.YtmeinhaecplpkaaGreatSN9
import Derived.Test.YtmeinhaecplpkaaGreatSNX
import Derived.Test.YtmeinhaecplpkaaGreatSP1
import Derived.Test.YtmeinhaecplpkaaGreatSP2
import Derived.Test.YtmeinhaecplpkaaGreatSP3
import Derived.Test.YtmeinhaecplpkaaGreatSP4
import Derived.Test.YtmeinhaecplpkaaGreatSP5

set_option linter.unusedSimpArgs false
set_option linter.unusedVariables false
set_option maxRecDepth 100000
set_option maxHeartbeats 16000000
set_option linter.defProp false
namespace Go.Rx
open Go
attribute [local irreducible] Req Way WayG Sel Z2 ZQ Zaz cVC Zai ZaO
@[go_sem] def hr11:ZW:=hh [[0],[0],[],[0],[3],[3,4],[3,4,5],[3,4,5,6,7,8]]
@[go_sem] def hl11:ZW:=hh []
attribute [go_sem] Go.Proofs.Tryz.results11
theorem ZDj (code:List UInt8) (hl:code.length≤1048576):ZQ Go.Proofs.Tryz.prog 11 [.d (.sl (bys code))] [] [.dead] (.d (.bool true)) []:=by
 refine cof Go.Proofs.Tryz.func11 hr11 hl11 [false] ?_
 obtain ⟨pg,view,hW⟩:=ZrH (c:=Cur.new code)
 have hi:=hW.store
 have hS:(Zbr (Cur.new code)).1.ZB=ZtY code:=rfl
 rw [hS] at hi
 have hbig:decide ((1048576:Int)<(code.length:Int))=false:=decide_eq_false (by omega)
 generalize (Zbr (Cur.new code)).1.Zq=ps at hi
 generalize (Zbr (Cur.new code)).1.Zs=nx at hi
 simp -implicitDefEqProofs only [go_sem]
 refine kl_big code rfl ?_
 simp -implicitDefEqProofs only [go_sem,hbig,ZN.cells]
 repeat ((first|refine rq ?_|refine wl ?_|refine gl ?_|refine Zx9 code hl rfl ?_|fail);simp -implicitDefEqProofs only [go_sem,hbig,ZN.cells])
 generalize ZtY code=s at hi ⊢
 have hs:=hi.small
 have hf:=Zjm hs
 have hdk:=hs.disk
 have hb:=ZlJ (oldest:=Zco s) hi.disk
 have hB:=hi.disk.pages_len
 have hsm:=hb.txs.ok.smallW hB
 have hus:(Zdq s.Zc s.Zp (Zco s)).ZH.Pairwise (·< ·):=hb.txs.ok.usable
 obtain ⟨b1,b3,b4⟩:=ZkQ hi.disk hb
 have hsame:Zgx (ZlK s.Zc s.Zp (Zco s)):=⟨rfl,rfl⟩
 have hcm:Zh4 (ZlK s.Zc s.Zp (Zco s))= .tup [.d (.agg (Za6 s.Zc).cells),.d (.agg s.Zp.cells),.d (.bool true)]:=by
  unfold Zh4 Zev;rw [if_pos hsame];rfl
 have hct:cutD (ZlK s.Zc s.Zp (Zco s)) 1 [] (-1)=Zb9 s.Zc [] (-1):=by unfold cutD;rw [if_pos (.inl hsame)];rfl
 have hdd:Za5 (ZlK s.Zc s.Zp (Zco s)).ZK.Zc:=hi.disk.disk
 have hroot:(ZlK s.Zc s.Zp (Zco s)).Zy=s.Zp.Zy:=rfl
 have hbase:(ZlK s.Zc s.Zp (Zco s)).Za=s.Zp:=rfl
 have hfr:s.Zp.Ze.length≤LEN:=by have:=(ZaK hs.mt).1;simp only [LEN];omega
 have hf2:(ZlK s.Zc s.Zp (Zco s)).Za.Ze.length≤LEN:=hfr
 have hmk:Za8 (ZlK s.Zc s.Zp (Zco s)).Za:=hs.mt
 have dq:decide ((ZlK s.Zc s.Zp (Zco s)).Zy=s.Zp.Zy)=true:=decide_eq_true rfl
 have hsd:Zck (Za6 s.Zc):=Zb4 (Zg0 hi.disk.disk)
 have hfd:Zck (Zb9 s.Zc [] (-1)):=Zb4 (Zi5 hi.disk.disk)
 simp -implicitDefEqProofs only [go_sem,ZkV,GTxn.cells]
 repeat ((first|refine rq ?_|refine wl ?_|refine gl ?_|refine ZjS s hs (by simp -implicitDefEqProofs only [go_sem,ZN.cells_eq];first|done|rfl) ?_|refine ki_Begin s.Zc s.Zp (Zco s) hdk (ZaK hs.mt) hf hus (by simp -implicitDefEqProofs only [go_sem,ZT.cells_eq,ZX.cells_eq];first|done|rfl) ?_|refine ZqY s.Zc s.Zp (Zco s) hdk (ZaK hs.mt) hf (by simp -implicitDefEqProofs only [go_sem,ZT.cells_eq,ZX.cells_eq];first|done|rfl) ?_|fail);simp -implicitDefEqProofs only [go_sem,ZkV,GTxn.cells])
 generalize ZlK s.Zc s.Zp (Zco s)=t at hcm hct hdd hroot hbase hf2 hmk dq hsm b1 b3 b4 hb hsame ⊢
 have hmk2:=ZaK hmk
 have hm0:=ZaK hs.mt
 clear hbase hroot hsame hb
 refine ki_Commit t b1 hsm b3 b4 (by simp -implicitDefEqProofs only [go_sem,GTxn.cells_eq];first|done|rfl) ?_
 have hm2:∀f∈t.Za.Ze,f.Zv.length≤LEN:=fun f hf=>by have:f.Zv.length≤1048576:=hmk2.2 f hf;simp only [LEN];omega
 have hm3:∀f∈s.Zp.Ze,f.Zv.length≤LEN:=fun f hf=>by have:f.Zv.length≤1048576:=hm0.2 f hf;simp only [LEN];omega
 simp -implicitDefEqProofs only [go_sem,Zie,hcm,GTxn.cells,ZX.cells,ZT.cells,dq]
 repeat ((first|refine rq ?_|refine wl ?_|refine gl ?_|fail);simp -implicitDefEqProofs only [go_sem,Zie,hcm,GTxn.cells,ZX.cells,ZT.cells,dq])
 refine ZBB t hsm hf2 hm2 (by simp -implicitDefEqProofs only [go_sem,GTxn.cells_eq];first|done|rfl) ?_
 simp -implicitDefEqProofs only [go_sem,Zie,hct,dq,ZX.cells,ZT.cells]
 repeat ((first|refine rq ?_|refine wl ?_|refine gl ?_|refine ZBo s.Zp hfr hm3 (by simp -implicitDefEqProofs only [go_sem,ZX.cells_eq];first|done|rfl) ?_|refine Zc4 s.Zc hdk (by simp -implicitDefEqProofs only [go_sem,ZT.cells_eq];first|done|rfl) ?_|refine ZBp (Za6 s.Zc) (by have:=hsd.1;simp only [LEN];omega) (by have:=hsd.2;simp only [LEN];omega) (by simp -implicitDefEqProofs only [go_sem,ZT.cells_eq];first|done|rfl) ?_|fail);simp -implicitDefEqProofs only [go_sem,Zie,hct,dq,ZX.cells,ZT.cells])
 refine ZuN (xs:=[.agg t.cells,.int .i64 1,.sl (bls []),.int .i64 (-1)]) (ZDf t 1 [] (-1) b1 hsm b3 b4 hdd (by simp)) (by simp -implicitDefEqProofs only [go_sem,GTxn.cells_eq,bls];first|done|rfl) ?_
 simp -implicitDefEqProofs only [go_sem,Zie,hct,ZX.cells,ZT.cells]
 repeat ((first|refine rq ?_|refine wl ?_|refine gl ?_|fail);simp -implicitDefEqProofs only [go_sem,Zie,hct,ZX.cells,ZT.cells])
 refine ZuN (xs:=[.agg s.Zc.cells,.sl (bls []),.int .i64 (-1)]) (ZpR s.Zc hi.disk.disk [] (by simp) (-1)) (by simp -implicitDefEqProofs only [go_sem,ZT.cells_eq,bls];first|done|rfl) ?_
 simp -implicitDefEqProofs only [go_sem,Zie,hct,ZX.cells,ZT.cells]
 repeat ((first|refine rq ?_|refine wl ?_|refine gl ?_|refine ZBp (Zb9 s.Zc [] (-1)) (by have:=hfd.1;simp only [LEN];omega) (by have:=hfd.2;simp only [LEN];omega) (by simp -implicitDefEqProofs only [go_sem,ZT.cells_eq];first|done|rfl) ?_|fail);simp -implicitDefEqProofs only [go_sem,Zie,hct,ZX.cells,ZT.cells])
 try rfl
def kl_Begins (code:List UInt8) (hl:code.length≤1048576):=kf (ZDj code hl)
theorem ZDi (code:List UInt8) (hl:code.length≤LEN) (hb:¬code.length≤1048576):ZQ Go.Proofs.Tryz.prog 11 [.d (.sl (bys code))] [] [.dead] (.d (.bool true)) []:=by
 refine cof Go.Proofs.Tryz.func11 hr11 hl11 [false] ?_
 have hbig:decide ((1048576:Int)<(code.length:Int))=true:=decide_eq_true (by omega)
 simp -implicitDefEqProofs only [go_sem]
 refine kl_big code rfl ?_
 simp -implicitDefEqProofs only [go_sem,hbig]
 repeat ((first|refine rq ?_|refine wl ?_|refine gl ?_|fail);simp -implicitDefEqProofs only [go_sem,hbig])
def klb_Begins (code:List UInt8) (hl:code.length≤LEN) (hb:¬code.length≤1048576):=kf (ZDi code hl hb)
theorem cl_BeginsA (code:List UInt8) (h:code.length≤LEN∧∀x∈code,True):ZQ Go.Proofs.Tryz.prog 11 [.d (.sl (bys code))] [] [.dead] (.d (.bool true)) []:=
 if hl:code.length≤1048576 then ZDj code hl else ZDi code h.1 hl
end Go.Rx
