/-
  Part N1: lemmas on an evaluator over plain data of the model's code, plain laws on lists and numbers, or contracts of functions of the program; each lemma names its conditions.
-/
import Derived.Test.YtmeinhaecplpkaaGreatSA1
import Derived.Test.YtmeinhaecplpkaaGreatSA3
import Derived.Test.YtmeinhaecplpkaaGreatSA4
import Derived.Test.YtmeinhaecplpkaaGreatSE1
import Derived.Test.YtmeinhaecplpkaaGreatSE2
import Derived.Test.YtmeinhaecplpkaaGreatSE4
import Derived.Test.YtmeinhaecplpkaaGreatSE5
import Derived.Test.YtmeinhaecplpkaaGreatSE6
import Derived.Test.YtmeinhaecplpkaaGreatSP1
import Derived.Test.YtmeinhaecplpkaaGreatSP2

set_option linter.unusedSimpArgs false
set_option linter.unusedVariables false
set_option maxRecDepth 100000
set_option maxHeartbeats 16000000
set_option linter.defProp false
namespace Go.Rx
open Go
attribute [local irreducible] Req Way WayG Sel Z2 ZQ Zaz cVC Zai ZaO
theorem ZBy {p q:ZR}:(decide (p.Zi=q.Zi)&&decide (p.ZI=q.ZI))=decide (p=q):=by
 rw [Bool.eq_iff_iff]
 simp only [Bool.and_eq_true,decide_eq_true_eq]
 constructor
 ·rintro ⟨h1,h2⟩;cases p;cases q;simp_all
 ·rintro rfl;exact ⟨rfl,rfl⟩
end Go.Rx
namespace Go.Rx
open Go
attribute [local irreducible] Req Way WayG Sel Z2 ZQ Zaz cVC Zai ZaO
theorem deq {α:Type} [DecidableEq α] {a:α}:decide (a=a)=true:=decide_eq_true rfl
theorem ZBx {l:List Int} {i:Nat} {p q:Int} (hp:l[i]? =some p) (h:q∈l.take (i+1)):q∈l.take i∨q=p:=by
 rw [Z7 hp] at h;simpa using h
@[go_sem] def hr18:ZW:=hh [[0,1],[0,1],[0,1,5],[0,1,5],[0,1,5],[],[]]
@[go_sem] def hl18:ZW:=hh [[],[],[0,1,5]]
attribute [go_sem] Go.Proofs.Tryz.results18
theorem cl_in (l:List Int) (x:Int) (hl:l.length≤LEN):ZQ Go.Proofs.Tryz.prog 18 [.d (.sl (ints l)),.d (.int .i64 x)] [] [.dead,.dead] (.d (.bool (decide (x∈l)))) []:=by
 refine cof Go.Proofs.Tryz.func18 hr18 hl18 [false,false] ?_
 simp -implicitDefEqProofs only [go_sem]
 refine ZY (α:=Nat) (fun i=>⟨[(0,.d (.sl (ints l))),(1,.d (.int .i64 x)),(5,.d (.int .i64 i))],[]⟩)
  (fun i=>i≤l.length∧x∉l.take i) (fun i=>l.length - i) 0 rfl ⟨Nat.zero_le _,by simp⟩ ?_
 rintro i ⟨h2,h3⟩
 simp -implicitDefEqProofs only [go_sem]
 refine fork (fun h5=>?_) (fun h5=>?_)
 ·obtain ⟨p,hp⟩:=Z3 h5
  simp -implicitDefEqProofs only [go_sem,ZO hp]
  repeat ((first|refine rq ?_|fail);simp -implicitDefEqProofs only [go_sem,ZO hp])
  refine fork (fun h6=>?_) (fun h6=>?_)
  ·simp -implicitDefEqProofs only [go_sem]
   have:x∈l:=h6▸List.mem_of_getElem? hp
   simp [this]
  ·simp -implicitDefEqProofs only [go_sem]
   rw [ZV (by omega)]
   refine ZP (i+1) rfl ⟨by omega,fun hm=>?_⟩ (by omega)
   rcases ZBx hp hm with hm|rfl
   ·exact h3 hm
   ·exact h6 rfl
 ·simp -implicitDefEqProofs only [go_sem]
  rw [List.take_of_length_le (by omega)] at h3
  simp [h3]
def kl_in (l:List Int) (x:Int) (hl:l.length≤LEN):=kf (cl_in l x hl)
@[go_sem] def hr102:ZW:=hh [[0,1],[0,1],[],[0,1],[0,1,5],[0,1,5],[0,1,5],[],[]]
@[go_sem] def hl102:ZW:=hh [[],[],[],[],[0,1,5]]
attribute [go_sem] Go.Proofs.Tryz.results102
theorem ZBu (l:List Int) (hl:l.length≤LEN):ZQ Go.Proofs.Tryz.prog 102 [.d (.sl (ints l)),.d (.sl (ints l))] [] [.dead,.dead] (.d (.bool true)) []:=by
 refine cof Go.Proofs.Tryz.func102 hr102 hl102 [false,false] ?_
 simp -implicitDefEqProofs only [go_sem,deq]
 repeat ((first|refine rq ?_|refine wl ?_|refine gl ?_|fail);simp -implicitDefEqProofs only [go_sem,deq])
 refine ZY (α:=Nat) (fun i=>⟨[(0,.d (.sl (ints l))),(1,.d (.sl (ints l))),(5,.d (.int .i64 i))],[]⟩)
  (fun i=>i≤l.length) (fun i=>l.length - i) 0 rfl (Nat.zero_le _) ?_
 rintro i h2
 simp -implicitDefEqProofs only [go_sem]
 refine fork (fun h5=>?_) (fun h5=>?_)
 ·obtain ⟨p,hp⟩:=Z3 h5
  simp -implicitDefEqProofs only [go_sem,ZO hp,deq,Bool.and_true]
  repeat ((first|refine rq ?_|refine wl ?_|refine gl ?_|fail);simp -implicitDefEqProofs only [go_sem,ZO hp,deq,Bool.and_true])
  rw [ZV (by omega)]
  exact ZP (i+1) rfl (by omega) (by omega)
 ·simp -implicitDefEqProofs only [go_sem]
def ZBk (l:List Int) (hl:l.length≤LEN):=kf (ZBu l hl)
@[go_sem] def hr121:ZW:=hh [[0,1],[0,1],[],[0,1],[0,1,5],[0,1,5],[0,1,5],[],[]]
@[go_sem] def hl121:ZW:=hh [[],[],[],[],[0,1,5]]
attribute [go_sem] Go.Proofs.Tryz.results121
theorem ZBm (l:List (List UInt8)) (hl:l.length≤LEN):ZQ Go.Proofs.Tryz.prog 121 [.d (.sl (strs l)),.d (.sl (strs l))] [] [.dead,.dead] (.d (.bool true)) []:=by
 refine cof Go.Proofs.Tryz.func121 hr121 hl121 [false,false] ?_
 simp -implicitDefEqProofs only [go_sem,deq]
 repeat ((first|refine rq ?_|refine wl ?_|refine gl ?_|fail);simp -implicitDefEqProofs only [go_sem,deq])
 refine ZY (α:=Nat) (fun i=>⟨[(0,.d (.sl (strs l))),(1,.d (.sl (strs l))),(5,.d (.int .i64 i))],[]⟩)
  (fun i=>i≤l.length) (fun i=>l.length - i) 0 rfl (Nat.zero_le _) ?_
 rintro i h2
 simp -implicitDefEqProofs only [go_sem]
 refine fork (fun h5=>?_) (fun h5=>?_)
 ·obtain ⟨p,hp⟩:=Z3 h5
  simp -implicitDefEqProofs only [go_sem,ZM hp,deq,Bool.and_true]
  repeat ((first|refine rq ?_|refine wl ?_|refine gl ?_|fail);simp -implicitDefEqProofs only [go_sem,ZM hp,deq,Bool.and_true])
  rw [ZV (by omega)]
  exact ZP (i+1) rfl (by omega) (by omega)
 ·simp -implicitDefEqProofs only [go_sem]
def ZBl (l:List (List UInt8)) (hl:l.length≤LEN):=kf (ZBm l hl)
@[go_sem] def hr25:ZW:=hh [[0,1],[0,1],[],[0,1],[0,1,5],[0,1,5],[0,1,5],[],[]]
@[go_sem] def hl25:ZW:=hh [[],[],[],[],[0,1,5]]
attribute [go_sem] Go.Proofs.Tryz.results25
theorem ZBr (l m:List ZR) (hl:l.length≤LEN):ZQ Go.Proofs.Tryz.prog 25 [.d (.sl (Zaj l)),.d (.sl (Zaj m))] [] [.dead,.dead] (.d (.bool (decide (l=m)))) []:=by
 refine cof Go.Proofs.Tryz.func25 hr25 hl25 [false,false] ?_
 simp -implicitDefEqProofs only [go_sem]
 refine Zqp (fun h1=>?_) (fun h1=>?_)
 ·simp -implicitDefEqProofs only [go_sem]
  have:¬l=m:=fun e=>h1 (by rw [e])
  simp [this]
 ·simp -implicitDefEqProofs only [go_sem]
  refine ZY (α:=Nat) (fun i=>⟨[(0,.d (.sl (Zaj l))),(1,.d (.sl (Zaj m))),(5,.d (.int .i64 i))],[]⟩)
   (fun i=>i≤l.length∧l.take i=m.take i) (fun i=>l.length - i) 0 rfl ⟨Nat.zero_le _,rfl⟩ ?_
  rintro i ⟨h2,h3⟩
  simp -implicitDefEqProofs only [go_sem]
  refine fork (fun h5=>?_) (fun h5=>?_)
  ·obtain ⟨p,hp⟩:=Z3 h5
   obtain ⟨q,hq⟩:=Z3 (l:=m) (i:=i) (by omega)
   simp -implicitDefEqProofs only [go_sem,Zar hp,Zar hq]
   repeat ((first|refine rq ?_|fail);simp -implicitDefEqProofs only [go_sem,Zar hp,Zar hq,ZBy])
   refine Zqp (fun h6=>?_) (fun h6=>?_)
   ·simp -implicitDefEqProofs only [go_sem]
    have:¬l=m:=fun e=>h6 (by rw [e,hq] at hp;simpa using hp.symm)
    simp [this]
   ·simp -implicitDefEqProofs only [go_sem]
    rw [ZV (by omega)]
    refine ZP (i+1) rfl ⟨by omega,?_⟩ (by omega)
    rw [Z7 hp,Z7 hq,h3,h6]
  ·simp -implicitDefEqProofs only [go_sem]
   rw [List.take_of_length_le (by omega),List.take_of_length_le (by omega)] at h3
   simp [h3]
def ZBz (l m:List ZR) (hl:l.length≤LEN):=kf (ZBr l m hl)
@[go_sem] def hr57:ZW:=hh [[0,1],[2,3],[],[2,3],[2,3,5],[2,3,5],[2,3,5],[],[]]
@[go_sem] def hl57:ZW:=hh [[],[],[],[],[2,3,5]]
attribute [go_sem] Go.Proofs.Tryz.results57
theorem ZBv (a:ZT) (h1:a.Zv.length≤LEN) (h2:a.Zm.length≤LEN):ZQ Go.Proofs.Tryz.prog 57 [.d (.agg a.cells),.d (.agg a.cells)] [] [.dead,.dead] (.d (.bool true)) []:=by
 refine cof Go.Proofs.Tryz.func57 hr57 hl57 [false,false] ?_
 simp -implicitDefEqProofs only [go_sem,ZT.cells,deq]
 repeat ((first|refine rq ?_|refine wl ?_|refine gl ?_|refine ZBl a.Zv h1 rfl ?_|fail);simp -implicitDefEqProofs only [go_sem,ZT.cells,deq])
 refine ZY (α:=Nat) (fun i=>⟨[(2,.ref 0 0),(3,.ref 1 0),(5,.d (.int .i64 i))],[(0,some (.box [.d (.sl (strs a.Zv)),.d (.sl (Zae a.Zm))])),(1,some (.box [.d (.sl (strs a.Zv)),.d (.sl (Zae a.Zm))]))]⟩)
  (fun i=>i≤a.Zm.length) (fun i=>a.Zm.length - i) 0 rfl (Nat.zero_le _) ?_
 rintro i i1
 simp -implicitDefEqProofs only [go_sem]
 refine fork (fun h5=>?_) (fun h5=>?_)
 ·obtain ⟨p,hp⟩:=Z3 h5
  simp -implicitDefEqProofs only [go_sem,ZaY hp,deq,Bool.and_true]
  repeat ((first|refine rq ?_|refine wl ?_|refine gl ?_|fail);simp -implicitDefEqProofs only [go_sem,ZaY hp,deq,Bool.and_true])
  rw [ZV (by omega)]
  exact ZP (i+1) rfl (by omega) (by omega)
 ·simp -implicitDefEqProofs only [go_sem]
def ZBp (a:ZT) (h1:a.Zv.length≤LEN) (h2:a.Zm.length≤LEN):=kf (ZBv a h1 h2)
@[go_sem] def hr48:ZW:=hh [[0,1],[2,3]]
@[go_sem] def hl48:ZW:=hh []
attribute [go_sem] Go.Proofs.Tryz.results48
theorem ZBs (a:Z1) (h1:a.Zj.length≤LEN) (h2:a.ZJ.length≤LEN) (h3:a.Zk.length≤LEN):ZQ Go.Proofs.Tryz.prog 48 [.d (.agg a.cells),.d (.agg a.cells)] [] [.dead,.dead] (.d (.bool true)) []:=by
 refine cof Go.Proofs.Tryz.func48 hr48 hl48 [false,false] ?_
 have db:(a.Zn==a.Zn)=true:=by simp
 simp -implicitDefEqProofs only [go_sem,Z1.cells,deq,db]
 repeat ((first|refine rq ?_|refine wl ?_|refine gl ?_|refine ZBl a.Zj h1 rfl ?_|refine ZBl a.ZJ h2 rfl ?_|refine ZBk a.Zk h3 rfl ?_|fail);simp -implicitDefEqProofs only [go_sem,Z1.cells,deq,db])
def ZBA (a:Z1) (h1:a.Zj.length≤LEN) (h2:a.ZJ.length≤LEN) (h3:a.Zk.length≤LEN):=kf (ZBs a h1 h2 h3)
@[go_sem] def hr34:ZW:=hh [[0,1],[2,3],[],[2,3],[2,3,5],[2,3,5],[2,3,5],[],[]]
@[go_sem] def hl34:ZW:=hh [[],[],[],[],[2,3,5]]
attribute [go_sem] Go.Proofs.Tryz.results34
theorem ZBt (a:ZX) (h1:a.Ze.length≤LEN) (h2:∀f∈a.Ze,f.Zv.length≤LEN):ZQ Go.Proofs.Tryz.prog 34 [.d (.agg a.cells),.d (.agg a.cells)] [] [.dead,.dead] (.d (.bool true)) []:=by
 refine cof Go.Proofs.Tryz.func34 hr34 hl34 [false,false] ?_
 simp -implicitDefEqProofs only [go_sem,ZX.cells,deq]
 repeat ((first|refine rq ?_|refine wl ?_|refine gl ?_|fail);simp -implicitDefEqProofs only [go_sem,ZX.cells,deq])
 refine ZY (α:=Nat) (fun i=>⟨[(2,.ref 0 0),(3,.ref 1 0),(5,.d (.int .i64 i))],[(0,some (.box [.d (.int .i64 a.ZF),.d (.int .i64 a.Zy),.d (.int .i64 a.Zs),.d (.sl (Z9 a.Ze))])),(1,some (.box [.d (.int .i64 a.ZF),.d (.int .i64 a.Zy),.d (.int .i64 a.Zs),.d (.sl (Z9 a.Ze))]))]⟩)
  (fun i=>i≤a.Ze.length) (fun i=>a.Ze.length - i) 0 rfl (Nat.zero_le _) ?_
 rintro i i1
 simp -implicitDefEqProofs only [go_sem]
 refine fork (fun h5=>?_) (fun h5=>?_)
 ·obtain ⟨f,hf⟩:=Z3 h5
  have hfl:=h2 f (List.mem_of_getElem? hf)
  simp -implicitDefEqProofs only [go_sem,Z4 hf,deq]
  repeat ((first|refine rq ?_|refine wl ?_|refine gl ?_|refine ZBk f.Zv hfl rfl ?_|fail);simp -implicitDefEqProofs only [go_sem,Z4 hf,deq])
  rw [ZV (by omega)]
  exact ZP (i+1) rfl (by omega) (by omega)
 ·simp -implicitDefEqProofs only [go_sem]
def ZBo (a:ZX) (h1:a.Ze.length≤LEN) (h2:∀f∈a.Ze,f.Zv.length≤LEN):=kf (ZBt a h1 h2)
@[go_sem] def hr42:ZW:=hh [[0,1],[2,3]]
@[go_sem] def hl42:ZW:=hh []
attribute [go_sem] Go.Proofs.Tryz.results42
theorem ZBq (a:ZS) (hs:smallW a):ZQ Go.Proofs.Tryz.prog 42 [.d (.agg a.cells),.d (.agg a.cells)] [] [.dead,.dead] (.d (.bool true)) []:=by
 refine cof Go.Proofs.Tryz.func42 hr42 hl42 [false,false] ?_
 obtain ⟨⟨h1,h2⟩,h3,h4,h5⟩:=hs
 have l1:a.Zc.Zv.length≤LEN:=by simp only [LEN];omega
 have l2:a.Zc.Zm.length≤LEN:=by simp only [LEN];omega
 have l3:a.ZH.length≤LEN:=by simp only [LEN];omega
 have l4:a.Zg.length≤LEN:=by simp only [LEN];omega
 have l5:a.Zf.length≤LEN:=by simp only [LEN];omega
 simp -implicitDefEqProofs only [go_sem,ZS.cells,deq]
 repeat ((first|refine rq ?_|refine wl ?_|refine gl ?_|refine ZBp a.Zc l1 l2 (by simp -implicitDefEqProofs only [go_sem,ZT.cells_eq];first|done|rfl) ?_|refine ZBk a.ZH l3 rfl ?_|refine ZBk a.Zg l4 rfl ?_|refine ZBk a.Zf l5 rfl ?_|fail);simp -implicitDefEqProofs only [go_sem,ZS.cells,deq])
def ZBn (a:ZS) (hs:smallW a):=kf (ZBq a hs)
@[go_sem] def hr56:ZW:=hh [[0,1],[2,3]]
@[go_sem] def hl56:ZW:=hh []
attribute [go_sem] Go.Proofs.Tryz.results56
theorem ZBw (a:GTxn) (h1:smallW a.ZK) (h2:a.Za.Ze.length≤LEN) (h3:∀f∈a.Za.Ze,f.Zv.length≤LEN):ZQ Go.Proofs.Tryz.prog 56 [.d (.agg a.cells),.d (.agg a.cells)] [] [.dead,.dead] (.d (.bool true)) []:=by
 refine cof Go.Proofs.Tryz.func56 hr56 hl56 [false,false] ?_
 simp -implicitDefEqProofs only [go_sem,GTxn.cells,deq]
 repeat ((first|refine rq ?_|refine wl ?_|refine gl ?_|refine ZBo a.Za h2 h3 (by simp -implicitDefEqProofs only [go_sem,ZX.cells_eq];first|done|rfl) ?_|refine ZBn a.ZK h1 (by simp -implicitDefEqProofs only [go_sem,ZS.cells_eq];first|done|rfl) ?_|fail);simp -implicitDefEqProofs only [go_sem,GTxn.cells,deq])
def ZBB (a:GTxn) (h1:smallW a.ZK) (h2:a.Za.Ze.length≤LEN) (h3:∀f∈a.Za.Ze,f.Zv.length≤LEN):=kf (ZBw a h1 h2 h3)
end Go.Rx
