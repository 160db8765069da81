/-
  Part NA: lemmas on an evaluator over plain data of the model's code, plain laws on lists and numbers, or contracts of functions of the program; each lemma names its conditions.
-/
import Derived.Test.YtflimjgjgligeaaGreatSA1
import Derived.Test.YtflimjgjgligeaaGreatSA3
import Derived.Test.YtflimjgjgligeaaGreatSA4
import Derived.Test.YtflimjgjgligeaaGreatSB1
import Derived.Test.YtflimjgjgligeaaGreatSB6
import Derived.Test.YtflimjgjgligeaaGreatSE1
import Derived.Test.YtflimjgjgligeaaGreatSE2
import Derived.Test.YtflimjgjgligeaaGreatSE4
import Derived.Test.YtflimjgjgligeaaGreatSE5
import Derived.Test.YtflimjgjgligeaaGreatSE6
import Derived.Test.YtflimjgjgligeaaGreatSKI
import Derived.Test.YtflimjgjgligeaaGreatSP1
import Derived.Test.YtflimjgjgligeaaGreatSP2
import Derived.Test.YtflimjgjgligeaaGreatSP3
import Derived.Test.YtflimjgjgligeaaGreatSR0

set_option linter.unusedSimpArgs false
set_option linter.unusedVariables false
set_option maxRecDepth 100000
set_option maxHeartbeats 16000000
set_option linter.defProp false
namespace Go.Rx
open Go
attribute [local irreducible] Req Way WayG Sel Z2 ZQ Zaz cVC Zai ZaO
theorem ZAN (l:List ZR) (f:Nat) (cs:List D) (g:ZR→Bool) (hl:l.length≤LEN) (hf:∀p∈l,ZQ Go.Proofs.Tryz.prog f (.d (.agg [.str p.Zi,.str p.ZI])::cs.map .d) [] (.dead::cs.map fun _=> .dead) (.d (.bool (g p))) []):ZQ Go.Proofs.Tryz.prog 159 [.d (.sl (Zaj l)),.d (.clo f cs)] [] [.dead,.dead] (.d (.int .i64 (idxF g l))) []:=by
 refine cof Go.Proofs.Tryz.func159 hr159 hl159 [false,false] ?_;simp -implicitDefEqProofs only [go_sem];refine ZY (α:=Nat) (fun i=>⟨[(0,.d (.sl (Zaj l))),(1,.d (.clo f cs)),(7,.d (.int .i64 l.length)),(8,.d (.int .i64 i))],[]⟩)
  (fun i=>i≤l.length∧∀q∈l.take i,g q=false) (fun i=>l.length - i) 0 rfl ⟨Nat.zero_le _,by simp⟩ ?_
 rintro i ⟨h2,h3⟩;simp -implicitDefEqProofs only [go_sem];refine fork (fun h5=>?_) (fun h5=>?_)
 ·obtain ⟨p,hp⟩:=Z3 h5;have hmem:=List.mem_of_getElem? hp;simp -implicitDefEqProofs only [go_sem,Zar hp];repeat ((first|refine rq ?_|refine ZcM (xs:=(.agg [.str p.Zi,.str p.ZI])::cs) ZAf (hf p hmem) rfl (.inr ⟨Ze9 rfl,Zd6⟩) ?_|fail);simp -implicitDefEqProofs only [go_sem,Zar hp,ZbD.eq_1])
  cases hg:g p
  ·simp -implicitDefEqProofs only [go_sem];rw [ZV (by omega)];refine ZP (i+1) rfl ⟨by omega,fun q hq=>?_⟩ (by omega);rw [Z7 hp] at hq;rcases List.mem_append.1 hq with hq|hq
   ·exact h3 q hq
   ·simp at hq;subst hq;exact hg
  ·simp -implicitDefEqProofs only [go_sem];rw [Zu6 hp h3 hg]
 ·simp -implicitDefEqProofs only [go_sem];rw [List.take_of_length_le (by omega)] at h3;rw [Zu7 h3]
def ZAG (l:List ZR) (f:Nat) (cs:List D) (g:ZR→Bool) (hl:l.length≤LEN) (hf:∀p∈l,ZQ Go.Proofs.Tryz.prog f (.d (.agg [.str p.Zi,.str p.ZI])::cs.map .d) [] (.dead::cs.map fun _=> .dead) (.d (.bool (g p))) []):=kf (ZAN l f cs g hl hf)
theorem ZBy {p q:ZR}:(decide (p.Zi=q.Zi)&&decide (p.ZI=q.ZI))=decide (p=q):=by
 rw [Bool.eq_iff_iff];simp only [Bool.and_eq_true,decide_eq_true_eq];constructor
 ·rintro ⟨h1,h2⟩;cases p;cases q;simp_all
 ·rintro rfl;exact ⟨rfl,rfl⟩
theorem deq {α:Type} [DecidableEq α] {a:α}:decide (a=a)=true:=decide_eq_true rfl
theorem ZBx {l:List Int} {i:Nat} {p q:Int} (hp:l[i]? =some p) (h:q∈l.take (i+1)):q∈l.take i∨q=p:=by
 rw [Z7 hp] at h;simpa using h
@[go_sem] def hr45:ZW:=hh [[0,1],[0,1],[0,1,5],[0,1,5],[0,1,5],[],[]]
@[go_sem] def hl45:ZW:=hh [[],[],[0,1,5]]
attribute [go_sem] Go.Proofs.Tryz.results45
theorem cl_in (l:List Int) (x:Int) (hl:l.length≤LEN):ZQ Go.Proofs.Tryz.prog 45 [.d (.sl (ints l)),.d (.int .i64 x)] [] [.dead,.dead] (.d (.bool (decide (x∈l)))) []:=by
 refine cof Go.Proofs.Tryz.func45 hr45 hl45 [false,false] ?_;simp -implicitDefEqProofs only [go_sem];refine ZY (α:=Nat) (fun i=>⟨[(0,.d (.sl (ints l))),(1,.d (.int .i64 x)),(5,.d (.int .i64 i))],[]⟩)
  (fun i=>i≤l.length∧x∉l.take i) (fun i=>l.length - i) 0 rfl ⟨Nat.zero_le _,by simp⟩ ?_
 rintro i ⟨h2,h3⟩;simp -implicitDefEqProofs only [go_sem];refine fork (fun h5=>?_) (fun h5=>?_)
 ·obtain ⟨p,hp⟩:=Z3 h5;simp -implicitDefEqProofs only [go_sem,ZO hp];repeat ((first|refine rq ?_|fail);simp -implicitDefEqProofs only [go_sem,ZO hp])
  refine fork (fun h6=>?_) (fun h6=>?_)
  ·simp -implicitDefEqProofs only [go_sem];have:x∈l:=h6▸List.mem_of_getElem? hp;simp [this]
  ·simp -implicitDefEqProofs only [go_sem];rw [ZV (by omega)];refine ZP (i+1) rfl ⟨by omega,fun hm=>?_⟩ (by omega);rcases ZBx hp hm with hm|rfl
   ·exact h3 hm
   ·exact h6 rfl
 ·simp -implicitDefEqProofs only [go_sem];rw [List.take_of_length_le (by omega)] at h3;simp [h3]
def kl_in (l:List Int) (x:Int) (hl:l.length≤LEN):=kf (cl_in l x hl)
@[go_sem] def hr94:ZW:=hh [[0,1],[0,1],[],[0,1],[0,1,5],[0,1,5],[0,1,5],[],[]]
@[go_sem] def hl94:ZW:=hh [[],[],[],[],[0,1,5]]
attribute [go_sem] Go.Proofs.Tryz.results94
theorem ZBu (l:List Int) (hl:l.length≤LEN):ZQ Go.Proofs.Tryz.prog 94 [.d (.sl (ints l)),.d (.sl (ints l))] [] [.dead,.dead] (.d (.bool true)) []:=by
 refine cof Go.Proofs.Tryz.func94 hr94 hl94 [false,false] ?_;simp -implicitDefEqProofs only [go_sem,deq];repeat ((first|refine rq ?_|refine wl ?_|refine gl ?_|fail);simp -implicitDefEqProofs only [go_sem,deq])
 refine ZY (α:=Nat) (fun i=>⟨[(0,.d (.sl (ints l))),(1,.d (.sl (ints l))),(5,.d (.int .i64 i))],[]⟩)
  (fun i=>i≤l.length) (fun i=>l.length - i) 0 rfl (Nat.zero_le _) ?_
 rintro i h2;simp -implicitDefEqProofs only [go_sem];refine fork (fun h5=>?_) (fun h5=>?_)
 ·obtain ⟨p,hp⟩:=Z3 h5;simp -implicitDefEqProofs only [go_sem,ZO hp,deq,Bool.and_true];repeat ((first|refine rq ?_|refine wl ?_|refine gl ?_|fail);simp -implicitDefEqProofs only [go_sem,ZO hp,deq,Bool.and_true])
  rw [ZV (by omega)];exact ZP (i+1) rfl (by omega) (by omega)
 ·simp -implicitDefEqProofs only [go_sem]
def ZBk (l:List Int) (hl:l.length≤LEN):=kf (ZBu l hl)
@[go_sem] def hr116:ZW:=hh [[0,1],[0,1],[],[0,1],[0,1,5],[0,1,5],[0,1,5],[],[]]
@[go_sem] def hl116:ZW:=hh [[],[],[],[],[0,1,5]]
attribute [go_sem] Go.Proofs.Tryz.results116
theorem ZBm (l:List (List UInt8)) (hl:l.length≤LEN):ZQ Go.Proofs.Tryz.prog 116 [.d (.sl (strs l)),.d (.sl (strs l))] [] [.dead,.dead] (.d (.bool true)) []:=by
 refine cof Go.Proofs.Tryz.func116 hr116 hl116 [false,false] ?_;simp -implicitDefEqProofs only [go_sem,deq];repeat ((first|refine rq ?_|refine wl ?_|refine gl ?_|fail);simp -implicitDefEqProofs only [go_sem,deq])
 refine ZY (α:=Nat) (fun i=>⟨[(0,.d (.sl (strs l))),(1,.d (.sl (strs l))),(5,.d (.int .i64 i))],[]⟩)
  (fun i=>i≤l.length) (fun i=>l.length - i) 0 rfl (Nat.zero_le _) ?_
 rintro i h2;simp -implicitDefEqProofs only [go_sem];refine fork (fun h5=>?_) (fun h5=>?_)
 ·obtain ⟨p,hp⟩:=Z3 h5;simp -implicitDefEqProofs only [go_sem,ZM hp,deq,Bool.and_true];repeat ((first|refine rq ?_|refine wl ?_|refine gl ?_|fail);simp -implicitDefEqProofs only [go_sem,ZM hp,deq,Bool.and_true])
  rw [ZV (by omega)];exact ZP (i+1) rfl (by omega) (by omega)
 ·simp -implicitDefEqProofs only [go_sem]
def ZBl (l:List (List UInt8)) (hl:l.length≤LEN):=kf (ZBm l hl)
@[go_sem] def hr21:ZW:=hh [[0,1],[0,1],[],[0,1],[0,1,5],[0,1,5],[0,1,5],[],[]]
@[go_sem] def hl21:ZW:=hh [[],[],[],[],[0,1,5]]
attribute [go_sem] Go.Proofs.Tryz.results21
theorem ZBr (l m:List ZR) (hl:l.length≤LEN):ZQ Go.Proofs.Tryz.prog 21 [.d (.sl (Zaj l)),.d (.sl (Zaj m))] [] [.dead,.dead] (.d (.bool (decide (l=m)))) []:=by
 refine cof Go.Proofs.Tryz.func21 hr21 hl21 [false,false] ?_;simp -implicitDefEqProofs only [go_sem];refine Zqp (fun h1=>?_) (fun h1=>?_)
 ·simp -implicitDefEqProofs only [go_sem];have:¬l=m:=fun e=>h1 (by rw [e])
  simp [this]
 ·simp -implicitDefEqProofs only [go_sem];refine ZY (α:=Nat) (fun i=>⟨[(0,.d (.sl (Zaj l))),(1,.d (.sl (Zaj m))),(5,.d (.int .i64 i))],[]⟩)
   (fun i=>i≤l.length∧l.take i=m.take i) (fun i=>l.length - i) 0 rfl ⟨Nat.zero_le _,rfl⟩ ?_
  rintro i ⟨h2,h3⟩;simp -implicitDefEqProofs only [go_sem];refine fork (fun h5=>?_) (fun h5=>?_)
  ·obtain ⟨p,hp⟩:=Z3 h5;obtain ⟨q,hq⟩:=Z3 (l:=m) (i:=i) (by omega);simp -implicitDefEqProofs only [go_sem,Zar hp,Zar hq];repeat ((first|refine rq ?_|fail);simp -implicitDefEqProofs only [go_sem,Zar hp,Zar hq,ZBy])
   refine Zqp (fun h6=>?_) (fun h6=>?_)
   ·simp -implicitDefEqProofs only [go_sem];have:¬l=m:=fun e=>h6 (by rw [e,hq] at hp;simpa using hp.symm)
    simp [this]
   ·simp -implicitDefEqProofs only [go_sem];rw [ZV (by omega)];refine ZP (i+1) rfl ⟨by omega,?_⟩ (by omega);rw [Z7 hp,Z7 hq,h3,h6]
  ·simp -implicitDefEqProofs only [go_sem];rw [List.take_of_length_le (by omega),List.take_of_length_le (by omega)] at h3;simp [h3]
def ZBz (l m:List ZR) (hl:l.length≤LEN):=kf (ZBr l m hl)
@[go_sem] def hr104:ZW:=hh [[0,1],[2,3],[],[2,3],[2,3,5],[2,3,5],[2,3,5],[],[]]
@[go_sem] def hl104:ZW:=hh [[],[],[],[],[2,3,5]]
attribute [go_sem] Go.Proofs.Tryz.results104
theorem ZBv (a:ZT) (h1:a.Zv.length≤LEN) (h2:a.Zm.length≤LEN):ZQ Go.Proofs.Tryz.prog 104 [.d (.agg a.cells),.d (.agg a.cells)] [] [.dead,.dead] (.d (.bool true)) []:=by
 refine cof Go.Proofs.Tryz.func104 hr104 hl104 [false,false] ?_;simp -implicitDefEqProofs only [go_sem,ZT.cells,deq];repeat ((first|refine rq ?_|refine wl ?_|refine gl ?_|refine ZBl a.Zv h1 rfl ?_|fail);simp -implicitDefEqProofs only [go_sem,ZT.cells,deq])
 refine ZY (α:=Nat) (fun i=>⟨[(2,.ref 0 0),(3,.ref 1 0),(5,.d (.int .i64 i))],[(0,some (.box [.d (.sl (strs a.Zv)),.d (.sl (Zae a.Zm))])),(1,some (.box [.d (.sl (strs a.Zv)),.d (.sl (Zae a.Zm))]))]⟩)
  (fun i=>i≤a.Zm.length) (fun i=>a.Zm.length - i) 0 rfl (Nat.zero_le _) ?_
 rintro i i1;simp -implicitDefEqProofs only [go_sem];refine fork (fun h5=>?_) (fun h5=>?_)
 ·obtain ⟨p,hp⟩:=Z3 h5;simp -implicitDefEqProofs only [go_sem,ZaY hp,deq,Bool.and_true];repeat ((first|refine rq ?_|refine wl ?_|refine gl ?_|fail);simp -implicitDefEqProofs only [go_sem,ZaY hp,deq,Bool.and_true])
  rw [ZV (by omega)];exact ZP (i+1) rfl (by omega) (by omega)
 ·simp -implicitDefEqProofs only [go_sem]
def ZBp (a:ZT) (h1:a.Zv.length≤LEN) (h2:a.Zm.length≤LEN):=kf (ZBv a h1 h2)
@[go_sem] def hr44:ZW:=hh [[0,1],[2,3]]
@[go_sem] def hl44:ZW:=hh []
attribute [go_sem] Go.Proofs.Tryz.results44
theorem ZBs (a:Z1) (h1:a.Zj.length≤LEN) (h2:a.ZJ.length≤LEN) (h3:a.Zk.length≤LEN):ZQ Go.Proofs.Tryz.prog 44 [.d (.agg a.cells),.d (.agg a.cells)] [] [.dead,.dead] (.d (.bool true)) []:=by
 refine cof Go.Proofs.Tryz.func44 hr44 hl44 [false,false] ?_;have db:(a.Zn==a.Zn)=true:=by simp
 simp -implicitDefEqProofs only [go_sem,Z1.cells,deq,db];repeat ((first|refine rq ?_|refine wl ?_|refine gl ?_|refine ZBl a.Zj h1 rfl ?_|refine ZBl a.ZJ h2 rfl ?_|refine ZBk a.Zk h3 rfl ?_|fail);simp -implicitDefEqProofs only [go_sem,Z1.cells,deq,db])
def ZBA (a:Z1) (h1:a.Zj.length≤LEN) (h2:a.ZJ.length≤LEN) (h3:a.Zk.length≤LEN):=kf (ZBs a h1 h2 h3)
@[go_sem] def hr30:ZW:=hh [[0,1],[2,3],[],[2,3],[2,3,5],[2,3,5],[2,3,5],[],[]]
@[go_sem] def hl30:ZW:=hh [[],[],[],[],[2,3,5]]
attribute [go_sem] Go.Proofs.Tryz.results30
theorem ZBt (a:ZX) (h1:a.Ze.length≤LEN) (h2:∀f∈a.Ze,f.Zv.length≤LEN):ZQ Go.Proofs.Tryz.prog 30 [.d (.agg a.cells),.d (.agg a.cells)] [] [.dead,.dead] (.d (.bool true)) []:=by
 refine cof Go.Proofs.Tryz.func30 hr30 hl30 [false,false] ?_;simp -implicitDefEqProofs only [go_sem,ZX.cells,deq];repeat ((first|refine rq ?_|refine wl ?_|refine gl ?_|fail);simp -implicitDefEqProofs only [go_sem,ZX.cells,deq])
 refine ZY (α:=Nat) (fun i=>⟨[(2,.ref 0 0),(3,.ref 1 0),(5,.d (.int .i64 i))],[(0,some (.box [.d (.int .i64 a.ZF),.d (.int .i64 a.Zy),.d (.int .i64 a.Zs),.d (.sl (Z9 a.Ze))])),(1,some (.box [.d (.int .i64 a.ZF),.d (.int .i64 a.Zy),.d (.int .i64 a.Zs),.d (.sl (Z9 a.Ze))]))]⟩)
  (fun i=>i≤a.Ze.length) (fun i=>a.Ze.length - i) 0 rfl (Nat.zero_le _) ?_
 rintro i i1;simp -implicitDefEqProofs only [go_sem];refine fork (fun h5=>?_) (fun h5=>?_)
 ·obtain ⟨f,hf⟩:=Z3 h5;have hfl:=h2 f (List.mem_of_getElem? hf);simp -implicitDefEqProofs only [go_sem,Z4 hf,deq];repeat ((first|refine rq ?_|refine wl ?_|refine gl ?_|refine ZBk f.Zv hfl rfl ?_|fail);simp -implicitDefEqProofs only [go_sem,Z4 hf,deq])
  rw [ZV (by omega)];exact ZP (i+1) rfl (by omega) (by omega)
 ·simp -implicitDefEqProofs only [go_sem]
def ZBo (a:ZX) (h1:a.Ze.length≤LEN) (h2:∀f∈a.Ze,f.Zv.length≤LEN):=kf (ZBt a h1 h2)
@[go_sem] def hr38:ZW:=hh [[0,1],[2,3]]
@[go_sem] def hl38:ZW:=hh []
attribute [go_sem] Go.Proofs.Tryz.results38
theorem ZBq (a:ZS) (hs:smallW a):ZQ Go.Proofs.Tryz.prog 38 [.d (.agg a.cells),.d (.agg a.cells)] [] [.dead,.dead] (.d (.bool true)) []:=by
 refine cof Go.Proofs.Tryz.func38 hr38 hl38 [false,false] ?_;obtain ⟨⟨h1,h2⟩,h3,h4,h5⟩:=hs;have l1:a.Zc.Zv.length≤LEN:=by simp only [LEN];omega
 have l2:a.Zc.Zm.length≤LEN:=by simp only [LEN];omega
 have l3:a.ZH.length≤LEN:=by simp only [LEN];omega
 have l4:a.Zg.length≤LEN:=by simp only [LEN];omega
 have l5:a.Zf.length≤LEN:=by simp only [LEN];omega
 simp -implicitDefEqProofs only [go_sem,ZS.cells,deq];repeat ((first|refine rq ?_|refine wl ?_|refine gl ?_|refine ZBp a.Zc l1 l2 (by simp -implicitDefEqProofs only [go_sem,ZT.cells_eq];first|done|rfl) ?_|refine ZBk a.ZH l3 rfl ?_|refine ZBk a.Zg l4 rfl ?_|refine ZBk a.Zf l5 rfl ?_|fail);simp -implicitDefEqProofs only [go_sem,ZS.cells,deq])
def ZBn (a:ZS) (hs:smallW a):=kf (ZBq a hs)
@[go_sem] def hr51:ZW:=hh [[0,1],[2,3]]
@[go_sem] def hl51:ZW:=hh []
attribute [go_sem] Go.Proofs.Tryz.results51
theorem ZBw (a:GTxn) (h1:smallW a.ZK) (h2:a.Za.Ze.length≤LEN) (h3:∀f∈a.Za.Ze,f.Zv.length≤LEN):ZQ Go.Proofs.Tryz.prog 51 [.d (.agg a.cells),.d (.agg a.cells)] [] [.dead,.dead] (.d (.bool true)) []:=by
 refine cof Go.Proofs.Tryz.func51 hr51 hl51 [false,false] ?_;simp -implicitDefEqProofs only [go_sem,GTxn.cells,deq];repeat ((first|refine rq ?_|refine wl ?_|refine gl ?_|refine ZBo a.Za h2 h3 (by simp -implicitDefEqProofs only [go_sem,ZX.cells_eq];first|done|rfl) ?_|refine ZBn a.ZK h1 (by simp -implicitDefEqProofs only [go_sem,ZS.cells_eq];first|done|rfl) ?_|fail);simp -implicitDefEqProofs only [go_sem,GTxn.cells,deq])
def ZBB (a:GTxn) (h1:smallW a.ZK) (h2:a.Za.Ze.length≤LEN) (h3:∀f∈a.Za.Ze,f.Zv.length≤LEN):=kf (ZBw a h1 h2 h3)
@[go_sem] def hr75:ZW:=hh [[0,1],[1,2],[1,2,5],[1,5,9,10,11],[1,5,9,10,11],[1,5,6,7,9,10,11],[1,6,9,10,11],[1,5,9,10,11],[5]]
@[go_sem] def hl75:ZW:=hh [[],[],[],[1,5,9,10,11]]
attribute [go_sem] Go.Proofs.Tryz.results75
theorem ZCl (n:Z1) (key:Key) (hn:n.Zj.length≤LEN):ZQ Go.Proofs.Tryz.prog 75 [.d (.agg n.cells),.d (.str key)] [] [.dead,.dead] (.d (.int .i64 (Zbe n.Zj key))) []:=by
 refine cof Go.Proofs.Tryz.func75 hr75 hl75 [false,false] ?_;simp -implicitDefEqProofs only [go_sem,Z1.cells];repeat ((first|refine rq ?_|fail);simp -implicitDefEqProofs only [go_sem,Z1.cells])
 refine ZY (α:=Nat) (fun i=>⟨[(1,.d (.str key)),(5,.d (.int .i64 (Zbe (n.Zj.take i) key))),(9,.d (.sl (strs n.Zj))),(10,.d (.int .i64 n.Zj.length)),(11,.d (.int .i64 i))],[]⟩)
  (fun i=>i≤n.Zj.length) (fun i=>n.Zj.length - i) 0 rfl (Nat.zero_le _) ?_
 rintro i i1;simp -implicitDefEqProofs only [go_sem];refine fork (fun h5=>?_) (fun h5=>?_)
 ·obtain ⟨k,hk⟩:=Z3 h5;have hst:=ZoV (key:=key) hk;have hi1:IntKind.i64.wrap ((i:Int)+1)=((i+1:Nat):Int):=ZV (by simp only [LEN] at hn ⊢;omega);cases hc:Zax key k
  ·rw [if_pos (show kle k key from hc)] at hst;simp -implicitDefEqProofs only [go_sem,ZM hk,hc];repeat ((first|refine rq ?_|refine wl ?_|refine gl ?_|fail);simp -implicitDefEqProofs only [go_sem,ZM hk,hc])
   rw [hi1];exact ZP (i+1) (by simp only [hst]) (by omega) (by omega)
  ·rw [if_neg (by unfold kle;rw [hc];simp)] at hst;simp -implicitDefEqProofs only [go_sem,ZM hk,hc];repeat ((first|refine rq ?_|refine wl ?_|refine gl ?_|fail);simp -implicitDefEqProofs only [go_sem,ZM hk,hc])
   rw [←hst,hi1];exact ZP (i+1) rfl (by omega) (by omega)
 ·rw [List.take_of_length_le (by omega)];simp -implicitDefEqProofs only [go_sem]
def ZCi (n:Z1) (key:Key) (hn:n.Zj.length≤LEN):=kf (ZCl n key hn)
@[go_sem] def hr76:ZW:=hh [[0,1,2],[1,2,3],[],[1,3]]
@[go_sem] def hl76:ZW:=hh []
attribute [go_sem] Go.Proofs.Tryz.results76
theorem ZCk (n:Z1) (i:Nat) (key k v:Key) (ek:n.Zj[i]? =some k) (ev:n.ZJ[i]? =some v) (hn:n.Zj.length≤LEN) (hm:n.ZJ.length≤LEN):ZQ Go.Proofs.Tryz.prog 76 [.d (.agg n.cells),.d (.int .i64 i),.d (.str key)] [] [.dead,.dead,.dead] (optV (if k=key then some v else none)) []:=by
 refine cof Go.Proofs.Tryz.func76 hr76 hl76 [false,false,false] ?_;have i1:=(List.getElem?_eq_some_iff.1 ek).1;have i2:=(List.getElem?_eq_some_iff.1 ev).1;by_cases hc:k=key
 ·have dc:decide (k=key)=true:=decide_eq_true hc;rw [if_pos hc];simp -implicitDefEqProofs only [go_sem,Z1.cells,ZM ek,ZM ev,dc];repeat ((first|refine rq ?_|refine wl ?_|refine gl ?_|fail);simp -implicitDefEqProofs only [go_sem,Z1.cells,ZM ek,ZM ev,dc])
  try rfl
 ·have dc:decide (k=key)=false:=decide_eq_false hc;rw [if_neg hc];simp -implicitDefEqProofs only [go_sem,Z1.cells,ZM ek,ZM ev,dc];repeat ((first|refine rq ?_|refine wl ?_|refine gl ?_|fail);simp -implicitDefEqProofs only [go_sem,Z1.cells,ZM ek,ZM ev,dc])
  try rfl
def ZCj (n:Z1) (i:Nat) (key k v:Key) (ek:n.Zj[i]? =some k) (ev:n.ZJ[i]? =some v) (hn:n.Zj.length≤LEN) (hm:n.ZJ.length≤LEN):=kf (ZCk n i key k v ek ev hn hm)
@[go_sem] def hr18:ZW:=hh [[0,1,2],[1,2,3],[2,3,8],[2,3,8,13],[2,3,8,13],[2,3,9,10,13],[],[2,3,9,13],[2,3,9,11,13],[],[2,3,9,11,13],[2,9,11],[2,3,9,11,13],[2,3,8,13],[]]
@[go_sem] def hl18:ZW:=hh [[],[],[],[2,3,8,13]]
attribute [go_sem] Go.Proofs.Tryz.results18
theorem ZCm (d:ZT) (root:Int) (key:Key) (h1:d.Zv.length≤1048576) (h2:d.Zm.length≤1048576) (hsm:∀p,(ZU d p).length≤1048576):ZQ Go.Proofs.Tryz.prog 18 [.d (.agg d.cells),.d (.int .i64 root),.d (.str key)] [] [.dead,.dead,.dead] (optV (getK 8 (rdW d) root key)) []:=by
 refine cof Go.Proofs.Tryz.func18 hr18 hl18 [false,false,false] ?_;simp -implicitDefEqProofs only [go_sem,ZT.cells];refine ZY (α:=Nat×Int) (fun x=>⟨[(2,.d (.str key)),(3,.ref 0 0),(8,.d (.int .i64 x.2)),(13,.d (.int .i64 (x.1:Nat)))],[(0,some (.box [.d (.sl (strs d.Zv)),.d (.sl (Zae d.Zm))]))]⟩)
  (fun x=>x.1≤8∧getK (8 - x.1) (rdW d) x.2 key=getK 8 (rdW d) root key) (fun x=>8 - x.1) (0,root) rfl ⟨by simp,rfl⟩ ?_
 rintro ⟨k,p⟩ ⟨k1,k2⟩;simp only at k1 k2;by_cases h8:k=8
 ·subst h8;have d8:decide ((((8:Nat):Int))<8)=false:=rfl;rw [←k2];simp -implicitDefEqProofs only [go_sem,d8];repeat ((first|refine rq ?_|refine wl ?_|refine gl ?_|fail);simp -implicitDefEqProofs only [go_sem,d8])
  try rfl
 have d8:decide (((k:Nat):Int)<8)=true:=decide_eq_true (by omega);obtain ⟨f,hf⟩:∃f,8 - k=f+1:=⟨7 - k,by omega⟩;rw [hf,getK] at k2;simp -implicitDefEqProofs only [go_sem,d8];repeat ((first|refine rq ?_|refine wl ?_|refine gl ?_|fail);simp -implicitDefEqProofs only [go_sem,d8])
 refine Zz9 d p (by omega) (by omega) rfl ?_;simp -implicitDefEqProofs only [go_sem];refine ZAa (ZU d p) (by have:=hsm p;omega) rfl ?_;cases hrn:ZaH (ZU d p) with
 |none=>
  have hrd:rdW d p=none:=hrn;rw [hrd] at k2;simp only [ZfW];rw [←k2];simp -implicitDefEqProofs only [go_sem];repeat ((first|refine rq ?_|refine wl ?_|refine gl ?_|fail);simp -implicitDefEqProofs only [go_sem])
  try rfl
 |some n=>
  have hrd:rdW d p=some n:=hrn;have hok:=Zcx _ _ hrd;have hk4:=hok.2.1;have hlt:= @Zuh n.Zj key;rw [hrd] at k2;simp only at k2;simp only [ZaE];by_cases ha:Zbe n.Zj key<0
  ·have da:decide (Zbe n.Zj key<0)=true:=decide_eq_true ha;rw [if_pos ha] at k2;rw [←k2];simp -implicitDefEqProofs only [go_sem,da];repeat ((first|refine rq ?_|refine wl ?_|refine gl ?_|refine ZCi n key (by simp only [LEN];omega) (ls:=[]) (by simp -implicitDefEqProofs only [go_sem,Z1.cells_eq];first|done|rfl) ?_|fail);simp -implicitDefEqProofs only [go_sem,da])
   try rfl
  ·have da:decide (Zbe n.Zj key<0)=false:=decide_eq_false ha;rw [if_neg ha] at k2;obtain ⟨i,hi⟩:∃i:Nat,Zbe n.Zj key=i:=⟨(Zbe n.Zj key).toNat,by omega⟩;rw [hi] at da k2 hlt;rw [Int.toNat_natCast] at k2;obtain ⟨ki,hki⟩:∃ki,n.Zj[i]? =some ki:=⟨_,List.getElem?_eq_getElem (by omega)⟩;have gk:n.Zj.getD i []=ki:=by rw [List.getD_eq_getElem?_getD,hki];rfl
   have hlay:=hok.2.2.2.2;cases hleaf:n.Zn with
   |true=>
    rw [hleaf] at hlay k2;simp only [if_true] at hlay k2;obtain ⟨vi,hvi⟩:∃vi,n.ZJ[i]? =some vi:=⟨_,List.getElem?_eq_getElem (by omega)⟩;have gv:n.ZJ.getD i []=vi:=by rw [List.getD_eq_getElem?_getD,hvi];rfl
    rw [gk,gv] at k2;rw [←k2];simp -implicitDefEqProofs only [go_sem,da,hleaf,hi];repeat ((first|refine rq ?_|refine wl ?_|refine gl ?_|refine ZCi n key (by simp only [LEN];omega) (ls:=[]) (by simp -implicitDefEqProofs only [go_sem,Z1.cells_eq,hleaf];first|done|rfl) ?_|refine ZCj n i key ki vi hki hvi (by simp only [LEN];omega) (by simp only [LEN];omega) (by simp -implicitDefEqProofs only [go_sem,Z1.cells_eq,hleaf];first|done|rfl) ?_|fail);simp -implicitDefEqProofs only [go_sem,da,hleaf,hi])
    split
    ·simp -implicitDefEqProofs only [go_sem,optV];repeat ((first|refine rq ?_|refine wl ?_|refine gl ?_|fail);simp -implicitDefEqProofs only [go_sem,optV])
     try rfl
    ·simp -implicitDefEqProofs only [go_sem,optV];repeat ((first|refine rq ?_|refine wl ?_|refine gl ?_|fail);simp -implicitDefEqProofs only [go_sem,optV])
     try rfl
   |false=>
    rw [hleaf] at hlay k2;simp only [Bool.false_eq_true,if_false] at hlay k2;obtain ⟨ci,hci⟩:∃ci,n.Zk[i]? =some ci:=⟨_,List.getElem?_eq_getElem (by omega)⟩;have gc:n.Zk.getD i 0=ci:=by rw [List.getD_eq_getElem?_getD,hci];rfl
    rw [gc] at k2;simp -implicitDefEqProofs only [go_sem,da,hleaf,hi,ZM hki,ZO hci];repeat ((first|refine rq ?_|refine wl ?_|refine gl ?_|refine ZCi n key (by simp only [LEN];omega) (ls:=[]) (by simp -implicitDefEqProofs only [go_sem,Z1.cells_eq,hleaf];first|done|rfl) ?_|fail);simp -implicitDefEqProofs only [go_sem,da,hleaf,hi,ZM hki,ZO hci])
    have hw:IntKind.i64.wrap ((k:Int)+1)=((k+1:Nat):Int):=ZV (by simp only [LEN];omega);rw [hw];refine ZP (k+1,ci) rfl ⟨by simp only;omega,?_⟩ (by simp only;omega);have e1:8 - (k+1)=f:=by omega
    simp only;rw [e1,k2]
def ki_GetKey (d:ZT) (root:Int) (key:Key) (h1:d.Zv.length≤1048576) (h2:d.Zm.length≤1048576) (hsm:∀p,(ZU d p).length≤1048576):=kf (ZCm d root key h1 h2 hsm)
def delS {α:Type} (g:α→Bool) (l:List α):Nat→Nat×List α
 |0=>(0,l)
 |j+1=>match l[j]? with
  |some v=>if g v=true then delS g l j else ((delS g l j).1+1,(delS g l j).2.set (delS g l j).1 v)
  |none=>delS g l j
structure DelOK {α:Type} (g:α→Bool) (l:List α) (j:Nat) (i:Nat) (A:List α):Prop where
 le:i≤j
 len:A.length=l.length
 pre:A.take i=(l.take j).filter fun x=> !g x
 rest:∀k,j≤k→A[k]? =l[k]?
theorem ZCB {α:Type} {g:α→Bool} {l:List α}:∀ {j:Nat},j≤l.length→DelOK g l j (delS g l j).1 (delS g l j).2
 |0,_=>⟨Nat.le_refl _,rfl,by simp [delS],fun _ _=>rfl⟩
 |j+1,h=>by
  have ih:=ZCB (g:=g) (l:=l) (j:=j) (by omega);obtain ⟨v,hv⟩:∃v,l[j]? =some v:=⟨_,List.getElem?_eq_getElem (by omega)⟩;rw [delS,hv];simp only;cases hg:g v
  ·rw [if_neg (by simp)];have h1:=ih.le;have h2:=ih.len;refine ⟨by simp only;omega,by simp only [List.length_set];omega,?_,fun k hk=>?_⟩
   ·simp only;have:((delS g l j).2.set (delS g l j).1 v)[(delS g l j).1]? =some v:=List.getElem?_set_self (by omega);rw [Z7 this,List.take_set_of_le (Nat.le_refl _),ih.pre,Z7 hv,List.filter_append];simp [hg]
   ·simp only;rw [List.getElem?_set_ne (by omega)];exact ih.rest k (by omega)
  ·rw [if_pos rfl];exact ⟨by have:=ih.le;omega,ih.len,by rw [ih.pre,Z7 hv,List.filter_append];simp [hg],fun k hk=>ih.rest k (by omega)⟩
theorem ZCx {α:Type} {g:α→Bool} {l:List α} {j:Nat} {v:α} (hv:l[j]? =some v):delS g l (j+1)=if g v=true then delS g l j else ((delS g l j).1+1,(delS g l j).2.set (delS g l j).1 v):=by
 rw [delS,hv]
theorem ZCy {α:Type} {g:α→Bool} {l:List α}:∀ {j:Nat},(∀k x,k<j→l[k]? =some x→g x=false)→j≤l.length→delS g l j=(j,l)
 |0,_,_=>rfl
 |j+1,h,hj=>by
  obtain ⟨v,hv⟩:∃v,l[j]? =some v:=⟨_,List.getElem?_eq_getElem (by omega)⟩;rw [ZCx hv,ZCy (fun k x hk=>h k x (by omega)) (by omega),if_neg (by rw [h j v (by omega) hv];simp)];simp only;congr 1;exact List.ext_getElem? fun k=>by
   by_cases hk:k=j
   ·subst hk;rw [List.getElem?_set_self (by omega),hv]
   ·rw [List.getElem?_set_ne (Ne.symm hk)]
theorem ZCC {α:Type} {g:α→Bool} {l:List α}:(idxF g l= -1∧∀x∈l,g x=false)∨∃k x,idxF g l=((k:Nat):Int)∧l[k]? =some x∧g x=true∧∀m y,m<k→l[m]? =some y→g y=false:=by
 unfold idxF;cases h:l.findIdx? g with
 |none=>exact .inl ⟨rfl,List.findIdx?_eq_none_iff.1 h⟩
 |some k=>
  obtain ⟨h1,h2,h3⟩:=List.findIdx?_eq_some_iff_getElem.1 h;refine .inr ⟨k,l[k],rfl,List.getElem?_eq_getElem h1,h2,fun m y hm hy=>?_⟩;obtain ⟨e1,e2⟩:=List.getElem?_eq_some_iff.1 hy;have:=h3 m hm;rw [e2] at this;simpa using this
theorem ZCz {α:Type} {c:α→List D} {A:List α} {i n:Nat} {z:α} (h:A.length=n) (hi:i≤n):Zez (A.map c) i (n - i) (c z)=(A.take i++List.replicate (n - i) z).map c:=by
 unfold Zez;rw [List.drop_eq_nil_of_le (by rw [List.length_map];omega),List.append_nil,List.map_append,List.map_take,List.map_replicate]
theorem ZCL {α:Type} {g:α→Bool} {l:List α} {z:α}:(l.filter g++List.replicate (l.length - (l.filter g).length) z).length=l.length:=by
 have:=List.length_filter_le g l;simp only [List.length_append,List.length_replicate];omega
theorem ZCJ {α:Type} {g:α→Bool} {c:α→List D} {l:List α} {z:α}:((l.filter g++List.replicate (l.length - (l.filter g).length) z).map c).take (l.filter g).length=(l.filter g).map c:=by
 rw [←List.map_take,List.take_left]
@[go_sem] def hr160:ZW:=hh [[0,1],[0,1],[0,1,7,8],[0,1,7,8],[0,1,5,7,8],[5],[0,1,7,8],[]]
@[go_sem] def hl160:ZW:=hh [[],[],[0,1,7,8]]
attribute [go_sem] Go.Proofs.Tryz.results160
theorem ZCD (l:List Int) (f:Nat) (cs:List D) (g:Int→Bool) (hl:l.length≤LEN) (hf:∀p∈l,ZQ Go.Proofs.Tryz.prog f (.d (.int .i64 p)::cs.map .d) [] (.dead::cs.map fun _=> .dead) (.d (.bool (g p))) []):ZQ Go.Proofs.Tryz.prog 160 [.d (.sl (ints l)),.d (.clo f cs)] [] [.dead,.dead] (.d (.int .i64 (idxF g l))) []:=by
 refine cof Go.Proofs.Tryz.func160 hr160 hl160 [false,false] ?_;simp -implicitDefEqProofs only [go_sem];refine ZY (α:=Nat) (fun i=>⟨[(0,.d (.sl (ints l))),(1,.d (.clo f cs)),(7,.d (.int .i64 l.length)),(8,.d (.int .i64 i))],[]⟩)
  (fun i=>i≤l.length∧∀q∈l.take i,g q=false) (fun i=>l.length - i) 0 rfl ⟨Nat.zero_le _,by simp⟩ ?_
 rintro i ⟨h2,h3⟩;simp -implicitDefEqProofs only [go_sem];refine fork (fun h5=>?_) (fun h5=>?_)
 ·obtain ⟨p,hp⟩:=Z3 h5;have hmem:=List.mem_of_getElem? hp;simp -implicitDefEqProofs only [go_sem,ZO hp];repeat ((first|refine rq ?_|refine ZcM (xs:=(.int .i64 p)::cs) ZAf (hf p hmem) rfl (.inr ⟨Ze9 rfl,Zd6⟩) ?_|fail);simp -implicitDefEqProofs only [go_sem,ZO hp,ZbD.eq_1])
  cases hg:g p
  ·simp -implicitDefEqProofs only [go_sem];rw [ZV (by omega)];refine ZP (i+1) rfl ⟨by omega,fun q hq=>?_⟩ (by omega);rw [Z7 hp] at hq;rcases List.mem_append.1 hq with hq|hq
   ·exact h3 q hq
   ·simp at hq;subst hq;exact hg
  ·simp -implicitDefEqProofs only [go_sem];rw [Zu6 hp h3 hg]
 ·simp -implicitDefEqProofs only [go_sem];rw [List.take_of_length_le (by omega)] at h3;rw [Zu7 h3]
def ZCA (l:List Int) (f:Nat) (cs:List D) (g:Int→Bool) (hl:l.length≤LEN) (hf:∀p∈l,ZQ Go.Proofs.Tryz.prog f (.d (.int .i64 p)::cs.map .d) [] (.dead::cs.map fun _=> .dead) (.d (.bool (g p))) []):=kf (ZCD l f cs g hl hf)
@[go_sem] def hr81:ZW:=hh [[0,1],[0,1]]
@[go_sem] def hl81:ZW:=hh []
attribute [go_sem] Go.Proofs.Tryz.results81
theorem ZCE (l:List Int) (f:Nat) (cs:List D) (g:Int→Bool) (hl:l.length≤LEN) (hf:∀p∈l,ZQ Go.Proofs.Tryz.prog f (.d (.int .i64 p)::cs.map .d) [] (.dead::cs.map fun _=> .dead) (.d (.bool (g p))) []):ZQ Go.Proofs.Tryz.prog 81 [.d (.sl (ints l)),.d (.clo f cs)] [] [.dead,.dead] (.d (.bool (l.any g))) []:=by
 refine cof Go.Proofs.Tryz.func81 hr81 hl81 [false,false] ?_;simp -implicitDefEqProofs only [go_sem];refine ZCA l f cs g hl hf rfl ?_;simp -implicitDefEqProofs only [go_sem];rw [Zw7]
def ki_conInt (l:List Int) (f:Nat) (cs:List D) (g:Int→Bool) (hl:l.length≤LEN) (hf:∀p∈l,ZQ Go.Proofs.Tryz.prog f (.d (.int .i64 p)::cs.map .d) [] (.dead::cs.map fun _=> .dead) (.d (.bool (g p))) []):=kf (ZCE l f cs g hl hf)
@[go_sem] def hr77:ZW:=hh [[0,1],[0,1],[0,1,5],[0],[0,1,5],[0,1,5,6],[0,1,5,6],[0,1,5,6],[0,1,5,6,7],[0,1,5,6,7],[0,1,5,6],[0,5],[0,5]]
@[go_sem] def hl77:ZW:=hh [[],[],[],[],[],[0,1,5,6]]
attribute [go_sem] Go.Proofs.Tryz.results77
theorem ci_DelPair (l:List ZR) (f:Nat) (cs:List D) (g:ZR→Bool) (hl:l.length≤4194304) (hf:∀p∈l,ZQ Go.Proofs.Tryz.prog f (.d (.agg [.str p.Zi,.str p.ZI])::cs.map .d) [] (.dead::cs.map fun _=> .dead) (.d (.bool (g p))) []):
  ZQ Go.Proofs.Tryz.prog 77 [.own 0 0 l.length,.d (.clo f cs)] [(0,.arr 2 (Zaj l))] [.own 0 0 l.length,.dead] (.own 0 0 (l.filter fun x=> !g x).length) [(0,.arr 2 (Zaj ((l.filter fun x=> !g x)++List.replicate (l.length - (l.filter fun x=> !g x).length) (⟨[],[]⟩:ZR))))]:=by
 refine cof Go.Proofs.Tryz.func77 hr77 hl77 [true,false] ?_;simp -implicitDefEqProofs only [go_sem];refine ZAG l f cs g (by simp only [LEN];omega) hf (by simp -implicitDefEqProofs only [go_sem,ZeR];first|done|rfl) ?_;simp -implicitDefEqProofs only [go_sem];rcases ZCC (g:=g) (l:=l) with ⟨h1,h2⟩|⟨k,x,h1,h2,h3,h4⟩
 ·have hfl:(l.filter fun x=> !g x)=l:=List.filter_eq_self.2 fun x hx=>by rw [h2 x hx];rfl
  have d1:decide ((-1:Int)= -1)=true:=rfl;rw [h1,hfl];simp -implicitDefEqProofs only [go_sem,d1];repeat ((first|refine rq ?_|refine wl ?_|refine gl ?_|fail);simp -implicitDefEqProofs only [go_sem,d1])
  rw [Nat.sub_self];simp
 ·have d1:decide ((k:Int)= -1)=false:=decide_eq_false (by omega);have hkl:=(List.getElem?_eq_some_iff.1 h2).1;have e1:IntKind.i64.wrap ((k:Int)+1)=((k+1:Nat):Int):=ZV (by simp only [LEN];omega);have hinit:delS g l (k+1)=(k,l):=by rw [ZCx h2,ZCy (fun m y hm hy=>h4 m y hm hy) (by omega),if_pos h3]
  rw [h1];simp -implicitDefEqProofs only [go_sem,d1,e1];repeat ((first|refine rq ?_|refine wl ?_|refine gl ?_|fail);simp -implicitDefEqProofs only [go_sem,d1,e1])
  refine ZY (α:=Nat) (fun j=>⟨[(0,.own 0 0 l.length),(1,.d (.clo f cs)),(5,.d (.int .i64 (delS g l j).1)),(6,.d (.int .i64 j))],[(0,some (.arr 2 (Zaj (delS g l j).2)))]⟩)
   (fun j=>k+1≤j∧j≤l.length) (fun j=>l.length - j) (k+1) (by rw [hinit]) ⟨Nat.le_refl _,by omega⟩ ?_
  rintro j ⟨j1,j2⟩;have ok:=ZCB (g:=g) j2;have oi:=ok.le;have ol:=ok.len;have op:=ok.pre;simp -implicitDefEqProofs only [go_sem];refine fork (fun h5=>?_) (fun h5=>?_)
  ·obtain ⟨v,hv⟩:=Z3 h5;have hA:=(ok.rest j (Nat.le_refl _)).trans hv;have hst:=ZCx (g:=g) hv;have hmem:=List.mem_of_getElem? hv;have e2:IntKind.i64.wrap ((j:Int)+1)=((j+1:Nat):Int):=ZV (by simp only [LEN];omega);have e3:IntKind.i64.wrap (((delS g l j).1:Int)+1)=(((delS g l j).1+1:Nat):Int):=ZV (by simp only [LEN];omega);generalize hi:(delS g l j).1=i at hst oi e3 ⊢;generalize hA2:(delS g l j).2=A at hst ol hA ⊢;obtain ⟨y,hy⟩:∃y,A[i]? =some y:=⟨_,List.getElem?_eq_getElem (by omega)⟩;cases hg:g v
   ·rw [hg,if_neg (by simp)] at hst;simp -implicitDefEqProofs only [go_sem,Zar hA,hg];repeat ((first|refine rq ?_|refine ZcM (xs:=(.agg [.str v.Zi,.str v.ZI])::cs) ZAf (hf v hmem) rfl (.inr ⟨Ze9 rfl,Zd6⟩) ?_|fail);simp -implicitDefEqProofs only [go_sem,Zar hA,Zar hy,hg,ol,ZbD.eq_1,List.drop_succ_cons,List.drop_zero,List.drop_nil])
    rw [e2,e3];exact ZP (j+1) (by rw [hst]) ⟨by omega,by omega⟩ (by omega)
   ·rw [hg,if_pos rfl] at hst;simp -implicitDefEqProofs only [go_sem,Zar hA,hg];repeat ((first|refine rq ?_|refine ZcM (xs:=(.agg [.str v.Zi,.str v.ZI])::cs) ZAf (hf v hmem) rfl (.inr ⟨Ze9 rfl,Zd6⟩) ?_|fail);simp -implicitDefEqProofs only [go_sem,Zar hA,hg,ol,ZbD.eq_1])
    rw [e2];exact ZP (j+1) (by rw [hst,hi,hA2]) ⟨by omega,by omega⟩ (by omega)
  ·obtain rfl:j=l.length:=by omega
   rw [List.take_length] at op;have hlen:(delS g l l.length).1=(l.filter fun x=> !g x).length:=by rw [←op,List.length_take];omega
   simp -implicitDefEqProofs only [go_sem];repeat ((first|refine rq ?_|refine wl ?_|refine gl ?_|fail);simp -implicitDefEqProofs only [go_sem])
   rw [hlen] at op ⊢;have hz:=ZCz (c:=ZR.cells) (A:=(delS g l l.length).2) (i:=(l.filter fun x=> !g x).length) (n:=l.length) (z:=(⟨[],[]⟩:ZR)) ol (by omega);rw [op] at hz;exact congrArg (fun y=>([V.own 0 0 l.length,V.dead],V.own 0 0 (l.filter fun x=> !g x).length,[(0,AObj.arr 2 y)])) hz
@[go_sem] def hr241:ZW:=hh [[0,1],[0,1],[0,1,5],[0],[0,1,5],[0,1,5,6],[0,1,5,6],[0,1,5,6],[0,1,5,6,7],[0,1,5,6,7],[0,1,5,6],[0,5],[0,5]]
@[go_sem] def hl241:ZW:=hh [[],[],[],[],[],[0,1,5,6]]
attribute [go_sem] Go.Proofs.Tryz.results241
theorem ci_DelInt (l:List Int) (f:Nat) (cs:List D) (g:Int→Bool) (hl:l.length≤4194304) (hf:∀p∈l,ZQ Go.Proofs.Tryz.prog f (.d (.int .i64 p)::cs.map .d) [] (.dead::cs.map fun _=> .dead) (.d (.bool (g p))) []):
  ZQ Go.Proofs.Tryz.prog 241 [.own 0 0 l.length,.d (.clo f cs)] [(0,.arr 1 (ints l))] [.own 0 0 l.length,.dead] (.own 0 0 (l.filter fun x=> !g x).length) [(0,.arr 1 (ints ((l.filter fun x=> !g x)++List.replicate (l.length - (l.filter fun x=> !g x).length) (0:Int))))]:=by
 refine cof Go.Proofs.Tryz.func241 hr241 hl241 [true,false] ?_;simp -implicitDefEqProofs only [go_sem];refine ZCA l f cs g (by simp only [LEN];omega) hf (by simp -implicitDefEqProofs only [go_sem,Zby];first|done|rfl) ?_;simp -implicitDefEqProofs only [go_sem];rcases ZCC (g:=g) (l:=l) with ⟨h1,h2⟩|⟨k,x,h1,h2,h3,h4⟩
 ·have hfl:(l.filter fun x=> !g x)=l:=List.filter_eq_self.2 fun x hx=>by rw [h2 x hx];rfl
  have d1:decide ((-1:Int)= -1)=true:=rfl;rw [h1,hfl];simp -implicitDefEqProofs only [go_sem,d1];repeat ((first|refine rq ?_|refine wl ?_|refine gl ?_|fail);simp -implicitDefEqProofs only [go_sem,d1])
  rw [Nat.sub_self];simp
 ·have d1:decide ((k:Int)= -1)=false:=decide_eq_false (by omega);have hkl:=(List.getElem?_eq_some_iff.1 h2).1;have e1:IntKind.i64.wrap ((k:Int)+1)=((k+1:Nat):Int):=ZV (by simp only [LEN];omega);have hinit:delS g l (k+1)=(k,l):=by rw [ZCx h2,ZCy (fun m y hm hy=>h4 m y hm hy) (by omega),if_pos h3]
  rw [h1];simp -implicitDefEqProofs only [go_sem,d1,e1];repeat ((first|refine rq ?_|refine wl ?_|refine gl ?_|fail);simp -implicitDefEqProofs only [go_sem,d1,e1])
  refine ZY (α:=Nat) (fun j=>⟨[(0,.own 0 0 l.length),(1,.d (.clo f cs)),(5,.d (.int .i64 (delS g l j).1)),(6,.d (.int .i64 j))],[(0,some (.arr 1 (ints (delS g l j).2)))]⟩)
   (fun j=>k+1≤j∧j≤l.length) (fun j=>l.length - j) (k+1) (by rw [hinit]) ⟨Nat.le_refl _,by omega⟩ ?_
  rintro j ⟨j1,j2⟩;have ok:=ZCB (g:=g) j2;have oi:=ok.le;have ol:=ok.len;have op:=ok.pre;simp -implicitDefEqProofs only [go_sem];refine fork (fun h5=>?_) (fun h5=>?_)
  ·obtain ⟨v,hv⟩:=Z3 h5;have hA:=(ok.rest j (Nat.le_refl _)).trans hv;have hst:=ZCx (g:=g) hv;have hmem:=List.mem_of_getElem? hv;have e2:IntKind.i64.wrap ((j:Int)+1)=((j+1:Nat):Int):=ZV (by simp only [LEN];omega);have e3:IntKind.i64.wrap (((delS g l j).1:Int)+1)=(((delS g l j).1+1:Nat):Int):=ZV (by simp only [LEN];omega);generalize hi:(delS g l j).1=i at hst oi e3 ⊢;generalize hA2:(delS g l j).2=A at hst ol hA ⊢;obtain ⟨y,hy⟩:∃y,A[i]? =some y:=⟨_,List.getElem?_eq_getElem (by omega)⟩;cases hg:g v
   ·rw [hg,if_neg (by simp)] at hst;simp -implicitDefEqProofs only [go_sem,ZO hA,hg];repeat ((first|refine rq ?_|refine ZcM (xs:=(.int .i64 v)::cs) ZAf (hf v hmem) rfl (.inr ⟨Ze9 rfl,Zd6⟩) ?_|fail);simp -implicitDefEqProofs only [go_sem,ZO hA,ZO hy,hg,ol,ZbD.eq_1,List.drop_succ_cons,List.drop_zero,List.drop_nil])
    rw [e2,e3];exact ZP (j+1) (by rw [hst]) ⟨by omega,by omega⟩ (by omega)
   ·rw [hg,if_pos rfl] at hst;simp -implicitDefEqProofs only [go_sem,ZO hA,hg];repeat ((first|refine rq ?_|refine ZcM (xs:=(.int .i64 v)::cs) ZAf (hf v hmem) rfl (.inr ⟨Ze9 rfl,Zd6⟩) ?_|fail);simp -implicitDefEqProofs only [go_sem,ZO hA,hg,ol,ZbD.eq_1])
    rw [e2];exact ZP (j+1) (by rw [hst,hi,hA2]) ⟨by omega,by omega⟩ (by omega)
  ·obtain rfl:j=l.length:=by omega
   rw [List.take_length] at op;have hlen:(delS g l l.length).1=(l.filter fun x=> !g x).length:=by rw [←op,List.length_take];omega
   simp -implicitDefEqProofs only [go_sem];repeat ((first|refine rq ?_|refine wl ?_|refine gl ?_|fail);simp -implicitDefEqProofs only [go_sem])
   rw [hlen] at op ⊢;have hz:=ZCz (c:=(fun n=> [.int .i64 n])) (A:=(delS g l l.length).2) (i:=(l.filter fun x=> !g x).length) (n:=l.length) (z:=(0:Int)) ol (by omega);rw [op] at hz;exact congrArg (fun y=>([V.own 0 0 l.length,V.dead],V.own 0 0 (l.filter fun x=> !g x).length,[(0,AObj.arr 1 y)])) hz
end Go.Rx
