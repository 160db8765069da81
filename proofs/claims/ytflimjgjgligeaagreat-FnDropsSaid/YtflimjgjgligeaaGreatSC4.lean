/-
  Part C4: lemmas on an evaluator over plain data of the model's code, plain laws on lists and numbers, or contracts of functions of the program; each lemma names its conditions.
-/
import Derived.Test.YtflimjgjgligeaaGreatSB6
import Derived.Test.YtflimjgjgligeaaGreatSC3
import Derived.Test.YtflimjgjgligeaaGreatSP5

set_option linter.unusedSimpArgs false
set_option linter.unusedVariables false
set_option maxRecDepth 100000
set_option maxHeartbeats 16000000
set_option linter.defProp false
namespace Go.Rx
open Go
attribute [local irreducible] Req Way WayG Sel Z2 ZQ Zaz cVC Zai ZaO
@[go_sem] def hr33:ZW:=hh [[0,1,2],[2,3,4,6],[2,4,6,7],[2,4,6,7,8],[2,4,6,7,8],[2,4,6,7,8],[2,4,6,7,8],[6,7],[6,7]]
@[go_sem] def hl33:ZW:=hh [[],[],[],[2,4,6,7,8]]
attribute [go_sem] Go.Proofs.Tryz.results33
theorem ZsJ (d:ZT) (m:ZX) (o:Int) (hd:Zck d) (hm:m.Ze.length≤1048576) (hl:(Z5 m.Ze).length≤1048576):ZQ Go.Proofs.Tryz.prog 33 [.d (.agg d.cells),.d (.agg m.cells),.d (.int .i64 o)] [] [.dead,.dead,.dead] (.d (.agg (Zdq d m o).cells)) []:=by
 refine cofF Go.Proofs.Tryz.func33 hr33 hl33 ?_;simp -implicitDefEqProofs only [go_sem,ZT.cells,ZX.cells];refine Zd3 (xs:=[.agg d.cells]) (Zd9 d hd) (by simp -implicitDefEqProofs only [go_sem,ZT.cells_eq];first|done|rfl) rfl ?_;simp -implicitDefEqProofs only [go_sem,ZT.cells];repeat ((first|refine rq ?_|refine wl ?_|refine gl ?_|fail);simp -implicitDefEqProofs only [go_sem,ZT.cells])
 refine ZY (α:=Nat) (fun i=>⟨[(2,.d (.int .i64 o)),(4,.ref 0 0),(6,.ref 1 0),(7,.ref 7 0),(8,.d (.int .i64 i))],[(0,some (.box [.d (.int .i64 m.ZF),.d (.int .i64 m.Zy),.d (.int .i64 m.Zs),.d (.sl (Z9 m.Ze))])),(1,some (.box [.own 2 0 0,.own 3 0 0,.d (.int .i64 0),.own 4 0 0,.own 5 0 0,.own 6 0 0])),(2,some (.arr 1 [])),(3,some (.arr 2 [])),(4,some (.arr 1 [])),(5,some (.arr 1 [])),(6,some (.arr 1 [])),(7,some (.box [.d (.sl (strs d.Zv)),.d (.sl (Zae d.Zm)),.d (.int .i64 m.Zs),.own 8 0 (Zfj m o i).length,.own 9 0 0,.own 10 0 0])),(8,some (.arr 1 (ints (Zfj m o i)))),(9,some (.arr 1 [])),(10,some (.arr 1 []))]⟩)
  (fun i=>i≤m.Ze.length) (fun i=>m.Ze.length - i) 0 rfl (Nat.zero_le _) ?_
 rintro i i1;have hul:=ZmH (m:=m) (o:=o) (i:=i);simp -implicitDefEqProofs only [go_sem];refine fork (fun h5=>?_) (fun h5=>?_)
 ·obtain ⟨f,hf⟩:=Z3 h5;have hst:=Zrw (o:=o) hf;have hul2:=ZmH (m:=m) (o:=o) (i:=i+1);have hi1:IntKind.i64.wrap ((i:Int)+1)=((i+1:Nat):Int):=ZV (by simp only [LEN];omega);by_cases hx:f.ZF≤o
  ·have dx:=decide_eq_true hx;rw [if_pos hx] at hst;have hal:(ints (Zfj m o i)).take (Zfj m o i).length++ints f.Zv=ints (Zfj m o (i+1)):=by rw [Zby,Zi3,hst]
   have hln:(Zfj m o i).length+f.Zv.length=(Zfj m o (i+1)).length:=by rw [hst,List.length_append]
   simp -implicitDefEqProofs only [go_sem,Z4 hf,dx,hal,Zi3,←hst,hln];repeat ((first|refine rq ?_|refine wl ?_|refine gl ?_|fail);simp -implicitDefEqProofs only [go_sem,Z4 hf,dx,hal,Zi3,←hst,hln])
   rw [hi1];refine ZP (i+1) ?_ (by omega) (by omega);simp [hst,Zi3]
  ·have dx:=decide_eq_false hx;rw [if_neg hx,List.append_nil] at hst;simp -implicitDefEqProofs only [go_sem,Z4 hf,dx];repeat ((first|refine rq ?_|refine wl ?_|refine gl ?_|fail);simp -implicitDefEqProofs only [go_sem,Z4 hf,dx])
   rw [hi1,←hst];exact ZP (i+1) rfl (by omega) (by omega)
 ·have hi:i=m.Ze.length:=by omega
  subst hi;have hall:=ZtK (d:=d) (m:=m) (o:=o);have hss:(ints (ZaP (Zfj m o m.Ze.length))).take (Zfj m o m.Ze.length).length=ints (ZaP (Zfj m o m.Ze.length)):=List.take_of_length_le (by simp [ints,Zbw]);simp -implicitDefEqProofs only [go_sem,ZS.cells,hss];repeat ((first|refine rq ?_|refine wl ?_|refine gl ?_|refine Zhi (Zfj m o m.Ze.length) (by omega) (by simp -implicitDefEqProofs only [go_sem,Zby];first|done|rfl) ?_|fail);simp -implicitDefEqProofs only [go_sem,ZS.cells,hss])
  rw [hall];rfl
def Zr7 (d:ZT) (m:ZX) (o:Int) (hd:Zck d) (hm:m.Ze.length≤1048576) (hl:(Z5 m.Ze).length≤1048576):=kf (ZsJ d m o hd hm hl)
@[go_sem] def hr186:ZW:=hh [[0,1,2],[2,3,4,6]]
@[go_sem] def hl186:ZW:=hh []
attribute [go_sem] Go.Proofs.Tryz.results186
theorem Zxy (d:ZT) (m:ZX) (o:Int) (hd:Zck d) (hs:ZaD m) (hl:(Z5 m.Ze).length≤1048576):ZQ Go.Proofs.Tryz.prog 186 [.d (.agg d.cells),.d (.agg m.cells),.d (.int .i64 o)] [] [.dead,.dead,.dead] (.d (.agg (ZlK d m o).cells)) []:=by
 refine cofF Go.Proofs.Tryz.func186 hr186 hl186 ?_;simp -implicitDefEqProofs only [go_sem,ZT.cells,ZX.cells];repeat ((first|refine rq ?_|refine ZbY m hs (by simp -implicitDefEqProofs only [go_sem,ZX.cells_eq];first|done|rfl) ?_|refine Zr7 d m o hd hs.1 hl (by simp -implicitDefEqProofs only [go_sem,ZX.cells_eq,ZT.cells_eq];first|done|rfl) ?_|fail);simp -implicitDefEqProofs only [go_sem,ZT.cells,ZX.cells,ZS.cells])
 try rfl
def ZqY (d:ZT) (m:ZX) (o:Int) (hd:Zck d) (hs:ZaD m) (hl:(Z5 m.Ze).length≤1048576):=kf (Zxy d m o hd hs hl)
@[go_sem] def hr119:ZW:=hh [[0],[1,2]]
@[go_sem] def hl119:ZW:=hh []
attribute [go_sem] Go.Proofs.Tryz.results119
theorem ZsE (t:GTxn) (h1:ZaD t.Za) (h2:smallW t.ZK):ZQ Go.Proofs.Tryz.prog 119 [.d (.agg t.cells)] [] [.dead] (.d (.agg t.cells)) []:=by
 refine cofF Go.Proofs.Tryz.func119 hr119 hl119 ?_;simp -implicitDefEqProofs only [go_sem,GTxn.cells];repeat ((first|refine rq ?_|refine ZbY t.Za h1 (by simp -implicitDefEqProofs only [go_sem,ZX.cells_eq];first|done|rfl) ?_|refine Zd3 (xs:=[.agg t.ZK.cells]) (Zd8 t.ZK h2) (by simp -implicitDefEqProofs only [go_sem,ZS.cells_eq];first|done|rfl) rfl ?_|fail);simp -implicitDefEqProofs only [go_sem,GTxn.cells,ZX.cells,ZS.cells])
 try rfl
def ZfY (t:GTxn) (h1:ZaD t.Za) (h2:smallW t.ZK):=kf (ZsE t h1 h2)
@[go_sem] def hr48:ZW:=hh [[0,1,2],[1,2,3,6],[1,2,3,6,8],[6,8,9,10,11],[6,8],[6,8,9,10],[6,8,10],[6,8]]
@[go_sem] def hl48:ZW:=hh []
attribute [go_sem] Go.Proofs.Tryz.results48
theorem Zvz {ours:Int→Prop} {B:List Int} {ps:List ZR} {pg:List Int} (t:GTxn) (key val:Key) (hB:B.length≤1000) (hm:ZaD t.Za) (hx:Txs ours B t.ZK t.Zy ps pg):ZQ Go.Proofs.Tryz.prog 48 [.d (.agg t.cells),.d (.str key),.d (.str val)] [] [.dead,.dead,.dead] (txnV (putT t key val) t) []:=by
 refine cofF Go.Proofs.Tryz.func48 hr48 hl48 ?_;have hsw:=hx.ok.smallW hB;have hp:=ZvC t.ZK t.Zy key val hB hx;unfold txnV putT;unfold ZyR at hp;simp -implicitDefEqProofs only [go_sem,GTxn.cells];refine ZfY t hm hsw (by simp -implicitDefEqProofs only [go_sem,GTxn.cells_eq];first|done|rfl) ?_;simp -implicitDefEqProofs only [go_sem,GTxn.cells];cases hk:putK t.ZK t.Zy key val with
 |none=>
  rw [hk] at hp;refine Zd3 (xs:=[.agg t.ZK.cells,.int .i64 t.Zy,.str key,.str val]) hp (by simp -implicitDefEqProofs only [go_sem,ZS.cells_eq];first|done|rfl) rfl ?_;simp -implicitDefEqProofs only [go_sem,GTxn.cells,ZS.cells];repeat ((first|refine rq ?_|refine wl ?_|refine gl ?_|fail);simp -implicitDefEqProofs only [go_sem,GTxn.cells,ZS.cells])
  try rfl
 |some r=>
  obtain ⟨w',r'⟩:=r;rw [hk] at hp;refine Zd3 (xs:=[.agg t.ZK.cells,.int .i64 t.Zy,.str key,.str val]) hp (by simp -implicitDefEqProofs only [go_sem,ZS.cells_eq];first|done|rfl) rfl ?_;simp -implicitDefEqProofs only [go_sem,GTxn.cells,ZS.cells];repeat ((first|refine rq ?_|refine wl ?_|refine gl ?_|fail);simp -implicitDefEqProofs only [go_sem,GTxn.cells,ZS.cells])
  try rfl
def ZjR {ours:Int→Prop} {B:List Int} {ps:List ZR} {pg:List Int} (t:GTxn) (key val:Key) (hB:B.length≤1000) (hm:ZaD t.Za) (hx:Txs ours B t.ZK t.Zy ps pg):=kf (Zvz t key val hB hm hx)
@[go_sem] def hr188:ZW:=hh [[0,1],[1,2,4],[1,2,4,6],[4,6,7,8,9],[4,6],[4,6,7,8],[4,6,8],[4,6]]
@[go_sem] def hl188:ZW:=hh []
attribute [go_sem] Go.Proofs.Tryz.results188
theorem ZsK {ours:Int→Prop} {B:List Int} {ps:List ZR} {pg:List Int} (t:GTxn) (key:Key) (hB:B.length≤1000) (hm:ZaD t.Za) (hx:Txs ours B t.ZK t.Zy ps pg):ZQ Go.Proofs.Tryz.prog 188 [.d (.agg t.cells),.d (.str key)] [] [.dead,.dead] (txnV (ZgR t key) t) []:=by
 refine cofF Go.Proofs.Tryz.func188 hr188 hl188 ?_;have hsw:=hx.ok.smallW hB;have hp:=ZsR t.ZK t.Zy key hB hx;unfold txnV ZgR;unfold Zvq at hp;simp -implicitDefEqProofs only [go_sem,GTxn.cells];refine ZfY t hm hsw (by simp -implicitDefEqProofs only [go_sem,GTxn.cells_eq];first|done|rfl) ?_;simp -implicitDefEqProofs only [go_sem,GTxn.cells];cases hk:Zn6 t.ZK t.Zy key with
 |none=>
  rw [hk] at hp;refine Zd3 (xs:=[.agg t.ZK.cells,.int .i64 t.Zy,.str key]) hp (by simp -implicitDefEqProofs only [go_sem,ZS.cells_eq];first|done|rfl) rfl ?_;simp -implicitDefEqProofs only [go_sem,GTxn.cells,ZS.cells];repeat ((first|refine rq ?_|refine wl ?_|refine gl ?_|fail);simp -implicitDefEqProofs only [go_sem,GTxn.cells,ZS.cells])
  try rfl
 |some r=>
  obtain ⟨w',r'⟩:=r;rw [hk] at hp;refine Zd3 (xs:=[.agg t.ZK.cells,.int .i64 t.Zy,.str key]) hp (by simp -implicitDefEqProofs only [go_sem,ZS.cells_eq];first|done|rfl) rfl ?_;simp -implicitDefEqProofs only [go_sem,GTxn.cells,ZS.cells];repeat ((first|refine rq ?_|refine wl ?_|refine gl ?_|fail);simp -implicitDefEqProofs only [go_sem,GTxn.cells,ZS.cells])
  try rfl
def ZhX {ours:Int→Prop} {B:List Int} {ps:List ZR} {pg:List Int} (t:GTxn) (key:Key) (hB:B.length≤1000) (hm:ZaD t.Za) (hx:Txs ours B t.ZK t.Zy ps pg):=kf (ZsK t key hB hm hx)
@[go_sem] def hr319:ZW:=hh [[0],[1]]
@[go_sem] def hl319:ZW:=hh []
attribute [go_sem] Go.Proofs.Tryz.results319
theorem ZsD (t:GTxn):ZQ Go.Proofs.Tryz.prog 319 [.d (.agg t.cells)] [] [.dead] (.d (.bool (decide (Zgx t)))) []:=by
 refine cof Go.Proofs.Tryz.func319 hr319 hl319 [false] ?_;have e:decide (Zgx t)=(decide (t.Zy=t.Za.Zy)&&decide (t.ZK.Zg=[])):=by
  unfold Zgx;exact Bool.decide_and ..
 have e2:decide (((t.ZK.Zg.length:Nat):Int)=0)=decide (t.ZK.Zg=[]):=decide_eq_decide.2 ⟨fun h=>List.length_eq_zero_iff.1 (by omega),fun h=>by rw [h];rfl⟩;rw [e];simp -implicitDefEqProofs only [go_sem,GTxn.cells];cases hr:decide (t.Zy=t.Za.Zy)
 ·simp -implicitDefEqProofs only [go_sem,hr,e2,Bool.false_and,Bool.true_and];repeat ((first|refine rq ?_|refine wl ?_|refine gl ?_|fail);simp -implicitDefEqProofs only [go_sem,hr,e2,Bool.false_and,Bool.true_and])
  try rfl
 ·simp -implicitDefEqProofs only [go_sem,hr,e2,Bool.false_and,Bool.true_and];repeat ((first|refine rq ?_|refine wl ?_|refine gl ?_|fail);simp -implicitDefEqProofs only [go_sem,hr,e2,Bool.false_and,Bool.true_and])
  try rfl
def ZdM (t:GTxn):=kf (ZsD t)
end Go.Rx
