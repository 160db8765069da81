/-
  Part KJ: lemmas on an evaluator over plain data of the model's code, plain laws on lists and numbers, or contracts of functions of the program; each lemma names its conditions.
-/
import Derived.Test.YtflimjgjgligeaaGreatSA1
import Derived.Test.YtflimjgjgligeaaGreatSA3
import Derived.Test.YtflimjgjgligeaaGreatSA5
import Derived.Test.YtflimjgjgligeaaGreatSE1
import Derived.Test.YtflimjgjgligeaaGreatSE2
import Derived.Test.YtflimjgjgligeaaGreatSE3
import Derived.Test.YtflimjgjgligeaaGreatSE4
import Derived.Test.YtflimjgjgligeaaGreatSE6
import Derived.Test.YtflimjgjgligeaaGreatSKI
import Derived.Test.YtflimjgjgligeaaGreatSP1
import Derived.Test.YtflimjgjgligeaaGreatSP2
import Derived.Test.YtflimjgjgligeaaGreatSR0

set_option linter.unusedSimpArgs false
set_option linter.unusedVariables false
set_option maxRecDepth 100000
set_option maxHeartbeats 16000000
set_option linter.defProp false
namespace Go.Rx
open Go
theorem shr64 {a:Nat} {k:Nat} (hk:k≤64):bShr .i64 (a:Int) (k:Int)=((a / 2 ^ k:Nat):Int):=by
 show (a:Int).fdiv (2 ^ min ((k:Int).toNat) 64)=_;rw [Int.toNat_natCast,Nat.min_eq_left hk,Int.fdiv_eq_ediv_of_nonneg _ (by exact_mod_cast Nat.zero_le _)]
 norm_cast
theorem or128 {n:Nat} (h:n<128):n|||128=n+128:=by
 have:=Nat.shiftLeft_add_eq_or_of_lt (i:=7) (b:=n) h 1;rw [Nat.or_comm];simp at this;omega
end Go.Rx

namespace Go.Rx
end Go.Rx

namespace Go.Rx
end Go.Rx

namespace Go.Rx
end Go.Rx

namespace Go.Rx
end Go.Rx

namespace Go.Rx
end Go.Rx

namespace Go.Rx
end Go.Rx

namespace Go.Rx
end Go.Rx

namespace Go.Rx
open Go
theorem ZD2 {w:ZS}:(ofW w).work=w:=rfl
def ZDM (w:ZS):OW×Int:=match w.ZH with
 |u::us=>({ofW w with ua:=u::us,uo:=1,fresh:=w.Zf++[u]},u)
 |[]=>if (w.Zc.Zv.length:Int)≤w.Zs then (ofW w,0) else ({ofW w with next:=IntKind.i64.wrap (w.Zs+1),fresh:=w.Zf++[w.Zs]},w.Zs)
theorem ZDW {w:ZS}:((ZDM w).1.work,(ZDM w).2)=Zcu w:=by
 unfold ZDM Zcu;cases h:w.ZH with
 |nil=>
  simp only;split
  ·rw [ZD2]
  ·simp [OW.work,ofW,h]
 |cons u us=>simp [OW.work,ofW]
def putO (w:ZS) (n:Z1):OW×Int:=match putN w n with
 |none=>(ofW w,0)
 |some (_,p)=>({(ZDM w).1 with late:=(ZDM w).1.late++[⟨p,Zcf n⟩]},p)
theorem ZD0 {w:ZS}:(ZDM w).1.pages=w.Zc.Zv∧(ZDM w).1.late=w.Zc.Zm:=by
 unfold ZDM;split
 ·exact ⟨rfl,rfl⟩
 ·split<;>exact ⟨rfl,rfl⟩
end Go.Rx

namespace Go.Rx
open Go
attribute [local irreducible] Req Way WayG Sel Z2 ZQ Zaz cVC Zai ZaO
theorem ZCW (n:Nat) (hn:n<9223372036854775808):ZQ Go.Proofs.Tryz.prog 163 [.d (.int .i64 n)] [] [.dead] (.d (.str (varB n))) []:=by
 refine cof Go.Proofs.Tryz.func163 hr163 hl163 [false] ?_;simp -implicitDefEqProofs only [go_sem];refine ZY (α:=List UInt8×Nat) (fun x=>⟨[(0,.d (.int .i64 x.2)),(3,.own 0 0 x.1.length)],[(0,some (.arr 1 (bys x.1)))]⟩)
  (fun x=>x.1++varB x.2=varB n∧x.2<9223372036854775808) (fun x=>x.2) ([],n) rfl ⟨rfl,hn⟩ ?_
 rintro ⟨out,m⟩ ⟨h1,h2⟩;simp only at h1 h2;have hl:out.length≤9:=by have:=ZdR hn;rw [←h1,List.length_append] at this;omega
 simp -implicitDefEqProofs only [go_sem];refine Zfi (fun h3=>?_) (fun h3=>?_)
 ·have e1:=and64 (a:=m) (b:=127) h2 (by omega);rw [ZD4] at e1;have e2:=or64 (a:=m%128) (b:=128) (by omega) (by omega);rw [or128 (by omega)] at e2;have e3:=shr64 (a:=m) (k:=7) (by omega);simp only [Int.cast_ofNat_Int] at e1 e2 e3;simp -implicitDefEqProofs only [go_sem,e1,e2,e3,Zea];repeat ((first|refine rq ?_|fail);simp -implicitDefEqProofs only [go_sem,e1,e2,e3,Zea])
  refine ZP (out++[UInt8.ofNat (m%128+128)],m / 128) (by simp) ⟨?_,?_⟩ ?_
  ·simp only;rw [ZtF (by omega)];exact h1
  ·simp only;omega
  ·simp only;omega
 ·simp -implicitDefEqProofs only [go_sem,Zea];repeat ((first|refine req rfl ?_|refine rq ?_|fail);simp -implicitDefEqProofs only [go_sem,Zea,Zrn,Zp0])
  rw [ZcU (by omega)] at h1;rw [h1]
def ZCU (n:Nat) (hn:n<9223372036854775808):=kf (ZCW n hn)
theorem ZD3 (s:List UInt8) (hs:s.length≤4611686018427387904):ZQ Go.Proofs.Tryz.prog 177 [.d (.str s)] [] [.dead] (.d (.str (Zcj s))) []:=by
 refine cof Go.Proofs.Tryz.func177 hr177 hl177 [false] ?_;simp -implicitDefEqProofs only [go_sem];refine ZCU s.length (by omega) rfl ?_;have:=ZdR (n:=s.length) (by omega);simp -implicitDefEqProofs only [go_sem];repeat ((first|refine rq ?_|fail);simp -implicitDefEqProofs only [go_sem])
 rfl
def ZDO (s:List UInt8) (hs:s.length≤4611686018427387904):=kf (ZD3 s hs)
theorem ZD1 (t:List UInt8) (ht:t.length≤20000):ZQ Go.Proofs.Tryz.prog 178 [.d (.str t)] [] [.dead] (.tup [.d (.str (Zgw t)),.d (.bool true)]) []:=by
 refine cof Go.Proofs.Tryz.func178 hr178 hl178 [false] ?_;have h1:¬(20000:Int)<t.length:=by omega
 have d1:=decide_eq_false h1;simp -implicitDefEqProofs only [go_sem,d1];repeat ((first|refine rq ?_|refine ZBd t (by simp only [LEN];omega) rfl ?_|fail);simp -implicitDefEqProofs only [go_sem,d1,Zra])
 rfl
def ZDP (t:List UInt8) (ht:t.length≤20000):=kf (ZD1 t ht)
theorem ZDQ (w:ZS) (hw:smallW w):ZQ Go.Proofs.Tryz.prog 98 [.d (.agg w.cells)] [] [.dead] (.agg [.own 0 0 w.Zc.Zv.length,.own 1 0 w.Zc.Zm.length,.d (.int .i64 w.Zs),.own 2 0 w.ZH.length,.own 3 0 w.Zg.length,.own 4 0 w.Zf.length]) [(0,.arr 1 (strs w.Zc.Zv)),(1,.arr 2 (Zae w.Zc.Zm)),(2,.arr 1 (ints w.ZH)),(3,.arr 1 (ints w.Zg)),(4,.arr 1 (ints w.Zf))]:=by
 refine cof Go.Proofs.Tryz.func98 hr98 hl98 [false] ?_;obtain ⟨h1,h2,h3,h4⟩:=hw;simp -implicitDefEqProofs only [go_sem,ZS.cells];repeat ((first|refine ZBc w.Zc h1 rfl ?_|refine ZBe w.ZH (by omega) rfl ?_|refine ZBe w.Zg (by omega) rfl ?_|refine ZBe w.Zf (by have:=h1.2;omega) rfl ?_|refine rq ?_|fail);simp -implicitDefEqProofs only [go_sem])
def ZDN (w:ZS) (hw:smallW w):=kf (ZDQ w hw)
theorem ZDa (l:List GPut) (f:Nat) (cs:List D) (g:GPut→Bool) (hl:l.length≤LEN) (hf:∀p∈l,ZQ Go.Proofs.Tryz.prog f (.d (.agg [.int .i64 p.Zu,.str p.ZC])::cs.map .d) [] (.dead::cs.map fun _=> .dead) (.d (.bool (g p))) []):ZQ Go.Proofs.Tryz.prog 231 [.d (.sl (Zae l)),.d (.clo f cs)] [] [.dead,.dead] (.d (.int .i64 (idxF g l))) []:=by
 refine cof Go.Proofs.Tryz.func231 hr231 hl231 [false,false] ?_;simp -implicitDefEqProofs only [go_sem];refine ZY (α:=Nat) (fun i=>⟨[(0,.d (.sl (Zae l))),(1,.d (.clo f cs)),(7,.d (.int .i64 l.length)),(8,.d (.int .i64 i))],[]⟩)
  (fun i=>i≤l.length∧∀q∈l.take i,g q=false) (fun i=>l.length - i) 0 rfl ⟨Nat.zero_le _,by simp⟩ ?_
 rintro i ⟨h2,h3⟩;simp -implicitDefEqProofs only [go_sem];refine fork (fun h5=>?_) (fun h5=>?_)
 ·obtain ⟨p,hp⟩:=Z3 h5;have hmem:=List.mem_of_getElem? hp;simp -implicitDefEqProofs only [go_sem,ZaY hp];repeat ((first|refine rq ?_|refine ZcM (xs:=(.agg [.int .i64 p.Zu,.str p.ZC])::cs) ZAf (hf p hmem) rfl (.inr ⟨Ze9 rfl,Zd6⟩) ?_|fail);simp -implicitDefEqProofs only [go_sem,ZaY hp,ZbD.eq_1])
  cases hg:g p
  ·simp -implicitDefEqProofs only [go_sem];rw [ZV (by omega)];refine ZP (i+1) rfl ⟨by omega,fun q hq=>?_⟩ (by omega);rw [Z7 hp] at hq;rcases List.mem_append.1 hq with hq|hq
   ·exact h3 q hq
   ·simp at hq;subst hq;exact hg
  ·simp -implicitDefEqProofs only [go_sem];rw [Zu6 hp h3 hg]
 ·simp -implicitDefEqProofs only [go_sem];rw [List.take_of_length_le (by omega)] at h3;rw [Zu7 h3]
def ZC8 (l:List GPut) (f:Nat) (cs:List D) (g:GPut→Bool) (hl:l.length≤LEN) (hf:∀p∈l,ZQ Go.Proofs.Tryz.prog f (.d (.agg [.int .i64 p.Zu,.str p.ZC])::cs.map .d) [] (.dead::cs.map fun _=> .dead) (.d (.bool (g p))) []):=kf (ZDa l f cs g hl hf)
theorem ZDb (l:List GPut) (f:Nat) (cs:List D) (g:GPut→Bool) (hl:l.length≤LEN) (hf:∀p∈l,ZQ Go.Proofs.Tryz.prog f (.d (.agg [.int .i64 p.Zu,.str p.ZC])::cs.map .d) [] (.dead::cs.map fun _=> .dead) (.d (.bool (g p))) []):ZQ Go.Proofs.Tryz.prog 168 [.d (.sl (Zae l)),.d (.clo f cs)] [] [.dead,.dead] (.d (.bool (l.any g))) []:=by
 refine cof Go.Proofs.Tryz.func168 hr168 hl168 [false,false] ?_;simp -implicitDefEqProofs only [go_sem];refine ZC8 l f cs g hl hf rfl ?_;simp -implicitDefEqProofs only [go_sem];rw [Zw7]
def ZC9 (l:List GPut) (f:Nat) (cs:List D) (g:GPut→Bool) (hl:l.length≤LEN) (hf:∀p∈l,ZQ Go.Proofs.Tryz.prog f (.d (.agg [.int .i64 p.Zu,.str p.ZC])::cs.map .d) [] (.dead::cs.map fun _=> .dead) (.d (.bool (g p))) []):=kf (ZDb l f cs g hl hf)
theorem ZC2 (s:List UInt8):ZQ Go.Proofs.Tryz.prog 167 [.d (.str s)] [] [.dead] (.d (.bool (decide ((240:Int)<s.length)))) []:=by
 refine cof Go.Proofs.Tryz.func167 hr167 hl167 [false] ?_;simp -implicitDefEqProofs only [go_sem]
theorem ZC7 (p:GPut) (d:ZT) (hd:d.Zv.length≤1048576):ZQ Go.Proofs.Tryz.prog 169 [.d (.agg [.int .i64 p.Zu,.str p.ZC]),.d (.ptr [.sl (strs d.Zv),.sl (Zae d.Zm)])] [] [.dead,.dead] (.d (.bool ((!decide (Za9 d p.Zu)).or (decide ((240:Int)<p.ZC.length))))) []:=by
 refine cof Go.Proofs.Tryz.func169 hr169 hl169 [false,false] ?_;simp -implicitDefEqProofs only [go_sem];refine ZAU d p.Zu (by omega) rfl ?_;by_cases h:Za9 d p.Zu
 ·have dh:=decide_eq_true h;simp -implicitDefEqProofs only [go_sem,dh];repeat ((first|refine rq ?_|fail);simp -implicitDefEqProofs only [go_sem,dh])
 ·have dh:=decide_eq_false h;simp -implicitDefEqProofs only [go_sem,dh];repeat ((first|refine rq ?_|fail);simp -implicitDefEqProofs only [go_sem,dh])
theorem ZDc (d:ZT) (hd:Zck d):ZQ Go.Proofs.Tryz.prog 88 [.d (.agg d.cells)] [] [.dead] (.d (.bool (decide (Za5 d)))) []:=by
 refine cof Go.Proofs.Tryz.func88 hr88 hl88 [false] ?_;obtain ⟨h1,h2⟩:=hd;simp -implicitDefEqProofs only [go_sem,ZT.cells];by_cases g1:(4:Int)≤d.Zv.length∧(d.Zv.length:Int)≤40
 ·have d1:=decide_eq_true g1;by_cases g2:(200:Int)<d.Zm.length
  ·have d2:=decide_eq_true g2;repeat ((first|refine ZAc _ _ _ rfl ?_|refine rq ?_|fail);simp -implicitDefEqProofs only [go_sem,d1,d2])
   have:¬Za5 d:=fun h=>by have:=h.2.2.1;omega
   simp [this]
  ·have d2:=decide_eq_false g2;cases g3:d.Zv.any fun s=>decide ((240:Int)<s.length)
   ·repeat ((first|refine ZAc _ _ _ rfl ?_|refine ZAW d.Zv 167 [] (fun s=>decide ((240:Int)<s.length)) (by simp only [LEN];omega) (fun p hp=>ZC2 p) rfl ?_|refine ZC9 d.Zm 169 [.ptr [.sl (strs d.Zv),.sl (Zae d.Zm)]] (fun p=>(!decide (Za9 d p.Zu)).or (decide ((240:Int)<p.ZC.length))) (by simp only [LEN];omega) (fun p hp=>ZC7 p d h1) rfl ?_|refine rq ?_|fail);simp -implicitDefEqProofs only [go_sem,d1,d2,g3])
    have g3':∀s∈d.Zv,s.length≤240:=fun s hs=>by
     have:=List.any_eq_false.1 g3 s hs;simp at this;omega
    have:(!d.Zm.any fun p=>(!decide (Za9 d p.Zu)).or (decide ((240:Int)<p.ZC.length)))=decide (Za5 d):=by
     rw [Bool.eq_iff_iff,Bool.not_eq_true',List.any_eq_false,decide_eq_true_eq];constructor
     ·intro h;refine ⟨by omega,by omega,by omega,g3',fun p hp=>?_⟩;have:=h p hp;simp at this;exact ⟨this.1,by omega⟩
     ·intro h p hp;obtain ⟨q1,q2⟩:=h.2.2.2.2 p hp;simp [q1];omega
    rw [this]
   ·repeat ((first|refine ZAc _ _ _ rfl ?_|refine ZAW d.Zv 167 [] (fun s=>decide ((240:Int)<s.length)) (by simp only [LEN];omega) (fun p hp=>ZC2 p) rfl ?_|refine rq ?_|fail);simp -implicitDefEqProofs only [go_sem,d1,d2,g3])
    have:¬Za5 d:=fun h=>by
     obtain ⟨s,hs,hb⟩:=List.any_eq_true.1 g3;have:=h.2.2.2.1 s hs;simp at hb;omega
    simp [this]
 ·have d1:=decide_eq_false g1;repeat ((first|refine ZAc _ _ _ rfl ?_|refine rq ?_|fail);simp -implicitDefEqProofs only [go_sem,d1])
  have:¬Za5 d:=fun h=>g1 ⟨by have:=h.1;omega,by have:=h.2.1;omega⟩
  simp [this]
def ZC4 (d:ZT) (hd:Zck d):=kf (ZDc d hd)
theorem ZDV (w:ZS) (hw:smallW w):ZQ Go.Proofs.Tryz.prog 108 [.d (.agg w.cells)] [] [.dead] (.tup [(ZDM w).1.v,.d (.int .i64 (ZDM w).2)]) (ZDM w).1.h:=by
 refine cof Go.Proofs.Tryz.func108 hr108 hl108 [false] ?_;have hw':=hw;obtain ⟨⟨h1,h2⟩,h3,h4,h5⟩:=hw';simp -implicitDefEqProofs only [go_sem,ZS.cells];refine ZDN w hw rfl ?_;simp -implicitDefEqProofs only [go_sem];rw [ZDM];cases hu:w.ZH with
 |nil=>
  have d0:decide ((0:Int)<((0:Nat):Int))=false:=rfl;by_cases hn:(w.Zc.Zv.length:Int)≤w.Zs
  ·have dn:=decide_eq_true hn;simp only [if_pos hn];simp -implicitDefEqProofs only [go_sem,d0,dn,OW.v_eq,OW.h_eq,ofW,hu]
  ·have dn:=decide_eq_false hn;simp only [if_neg hn];simp -implicitDefEqProofs only [go_sem,d0,dn,OW.v_eq,OW.h_eq,ofW,hu];repeat ((first|refine rq ?_|fail);simp -implicitDefEqProofs only [go_sem,d0,dn,OW.v_eq,OW.h_eq,ofW,hu])
   simp
 |cons u us=>
  have d0:decide ((0:Int)<((us.length+1:Nat):Int))=true:=decide_eq_true (by omega);have hg0:lget (ints (u::us)) 0=[.int .i64 u]:=ZO rfl;simp -implicitDefEqProofs only [go_sem,OW.v_eq,OW.h_eq,ofW,hu,d0,hg0];repeat ((first|refine rq ?_|fail);simp -implicitDefEqProofs only [go_sem,OW.v_eq,OW.h_eq,ofW,hu,d0,hg0])
  simp
theorem ZDS {h:Heap} {tb:Nat} {K:OK} {args:List V} {ls:List Nat} (w:ZS) (hw:smallW w) (hg:toDs h args=some ([.agg w.cells],ls))
  (hk:K (renV (bk tb ((ZDM w).1.h)) (.tup [(ZDM w).1.v,.d (.int .i64 (ZDM w).2)])) (updN tb ((ZDM w).1.h) ((ZDM w).1.h))):Z2 Go.Proofs.Tryz.prog h tb 108 args K:=
 ZcM hg (ZDV w hw) rfl (.inr ⟨Ze9 rfl,Zre⟩) hk
theorem ZC5 (d:ZT) (p:Int) (t:List UInt8) (hd:Zck d):ZQ Go.Proofs.Tryz.prog 109 [.d (.agg d.cells),.d (.int .i64 p),.d (.str t)] [] [.dead,.dead,.dead] (.tup [.agg [.own 0 0 d.Zv.length,.own 1 0 (wrO d p t).length],.d (.bool (Zak d p t).isSome)]) [(0,.arr 1 (strs d.Zv)),(1,.arr 2 (Zae (wrO d p t)))]:=by
 refine cof Go.Proofs.Tryz.func109 hr109 hl109 [false,false,false] ?_;have hd':=hd;obtain ⟨h1,h2⟩:=hd';simp -implicitDefEqProofs only [go_sem,ZT.cells];refine ZBc d hd rfl ?_;simp -implicitDefEqProofs only [go_sem];refine ZC4 d hd rfl ?_;by_cases g1:Za5 d
 ·have d1:=decide_eq_true g1;by_cases g2:Za9 d p
  ·have d2:=decide_eq_true g2;by_cases g3:(240:Int)<t.length
   ·have d3:=decide_eq_true g3;have hw:Zak d p t=none:=by rw [Zak,if_neg (fun h=>by have:=h.2.2.1;omega)]
    simp only [wrO,hw];simp -implicitDefEqProofs only [go_sem,d1];repeat ((first|refine rq ?_|refine ZAU d p (by omega) rfl ?_|fail);simp -implicitDefEqProofs only [go_sem,d1,d2,d3])
    rfl
   ·have d3:=decide_eq_false g3;by_cases g4:(200:Int)≤d.Zm.length
    ·have d4:=decide_eq_true g4;have hw:Zak d p t=none:=by rw [Zak,if_neg (fun h=>by have:=h.2.2.2;omega)]
     simp only [wrO,hw];simp -implicitDefEqProofs only [go_sem,d1];repeat ((first|refine rq ?_|refine ZAU d p (by omega) rfl ?_|fail);simp -implicitDefEqProofs only [go_sem,d1,d2,d3,d4])
     rfl
    ·have d4:=decide_eq_false g4;have hw:Zak d p t=some {d with Zm:=d.Zm++[⟨p,t⟩]}:=by rw [Zak,if_pos ⟨g1,g2,by omega,by omega⟩]
     simp only [wrO,hw];simp -implicitDefEqProofs only [go_sem,d1];repeat ((first|refine rq ?_|refine ZAU d p (by omega) rfl ?_|fail);simp -implicitDefEqProofs only [go_sem,d1,d2,d3,d4])
     simp
  ·have d2:=decide_eq_false g2;have hw:Zak d p t=none:=by rw [Zak,if_neg (fun h=>g2 h.2.1)]
   simp only [wrO,hw];simp -implicitDefEqProofs only [go_sem,d1];repeat ((first|refine rq ?_|refine ZAU d p (by omega) rfl ?_|fail);simp -implicitDefEqProofs only [go_sem,d1,d2])
   rfl
 ·have d1:=decide_eq_false g1;have hw:Zak d p t=none:=by rw [Zak,if_neg (fun h=>g1 h.1)]
  simp only [wrO,hw];simp -implicitDefEqProofs only [go_sem,d1];repeat ((first|refine rq ?_|fail);simp -implicitDefEqProofs only [go_sem,d1])
  rfl
def ZC3 (d:ZT) (p:Int) (t:List UInt8) (hd:Zck d):=kf (ZC5 d p t hd)
theorem ZDU (n:Z1) (h1:n.Zj.length≤LEN) (h2:n.ZJ.length≤LEN) (h3:n.Zk.length≤LEN):ZQ Go.Proofs.Tryz.prog 107 [.d (.agg n.cells)] [] [.dead] (Zkz n) []:=by
 refine cof Go.Proofs.Tryz.func107 hr107 hl107 [false] ?_;simp -implicitDefEqProofs only [go_sem,Z1.cells];refine ZAk n h1 h2 h3 rfl ?_;simp -implicitDefEqProofs only [go_sem];refine fork (fun h5=>?_) (fun h5=>?_)
 ·simp -implicitDefEqProofs only [go_sem];rw [Zkz,if_neg h5,decide_eq_false h5]
 ·have hn:=h5;have hb0:=ZdB h5;have hk:n.Zj.length≤4:=hn.2.1;have hv1:=Zdd (n:=n.Zj.length) (by omega);have hkl:=hn.2.2.2.1;rw [Zkz,if_pos h5,decide_eq_true h5];cases hl:n.Zn
  ·have hiff:=(Ze4 hl).1 hn;simp -implicitDefEqProofs only [go_sem];repeat ((first|refine rq ?_|refine ZCU n.Zj.length (by omega) rfl ?_|fail);simp -implicitDefEqProofs only [go_sem])
   have hh:ZjY n=98::varB n.Zj.length:=by simp [ZjY,hl]
   refine ZY (α:=Nat) (fun i=>⟨[(1,.ref 0 0),(4,.d (.str (ZjY n++entB n i))),(19,.d (.sl (strs n.Zj))),(20,.d (.int .i64 n.Zj.length)),(21,.d (.int .i64 i))],[(0,some (.box [.d (.bool false),.d (.sl (strs n.Zj)),.d (.sl (strs n.ZJ)),.d (.sl (ints n.Zk))]))]⟩)
    (fun i=>i≤n.Zj.length) (fun i=>n.Zj.length - i) 0 (by rw [Zn1,hh];rfl) (Nat.zero_le _) ?_
   rintro i i1;have hb:=Zi6 hn (i:=i);simp only [List.length_append] at hb;simp -implicitDefEqProofs only [go_sem];refine fork (fun h6=>?_) (fun h6=>?_)
   ·obtain ⟨p,hp⟩:=Z3 h6;obtain ⟨q,hq⟩:=Z3 (l:=n.Zk) (i:=i) (by omega);have hpl:=hkl p (List.mem_of_getElem? hp);have hql:=hiff.2.2.2.2.2.1 q (List.mem_of_getElem? hq);have hs:=ZeC hpl;have hb2:=Zi6 hn (i:=i+1);rw [Zj9 hl hp hq,←List.append_assoc,←List.append_assoc,List.length_append,List.length_append,List.length_append] at hb2;obtain ⟨q,rfl⟩:=Int.eq_ofNat_of_zero_le (show 0≤q by omega);rw [Int.toNat_natCast] at hb2;simp -implicitDefEqProofs only [go_sem,ZM hp,ZO hq];repeat ((first|refine rq ?_|refine ZDO p (by omega) rfl ?_|refine ZCU q (by omega) rfl ?_|fail);simp -implicitDefEqProofs only [go_sem,ZM hp,ZO hq])
    rw [ZV (by simp only [LEN];omega)];refine ZP (i+1) ?_ (by omega) (by omega);rw [Zj9 hl hp hq];simp
   ·simp -implicitDefEqProofs only [go_sem];rw [Zi7 hn (by omega)];refine ZDP (Za1 n) (by omega) rfl ?_;simp -implicitDefEqProofs only [go_sem];rfl
  ·have hiff:=(ZgD hl).1 hn;simp -implicitDefEqProofs only [go_sem];repeat ((first|refine rq ?_|refine ZCU n.Zj.length (by omega) rfl ?_|fail);simp -implicitDefEqProofs only [go_sem])
   have hh:ZjY n=108::varB n.Zj.length:=by simp [ZjY,hl]
   refine ZY (α:=Nat) (fun i=>⟨[(1,.ref 0 0),(4,.d (.str (ZjY n++entB n i))),(19,.d (.sl (strs n.Zj))),(20,.d (.int .i64 n.Zj.length)),(21,.d (.int .i64 i))],[(0,some (.box [.d (.bool true),.d (.sl (strs n.Zj)),.d (.sl (strs n.ZJ)),.d (.sl (ints n.Zk))]))]⟩)
    (fun i=>i≤n.Zj.length) (fun i=>n.Zj.length - i) 0 (by rw [Zn1,hh];rfl) (Nat.zero_le _) ?_
   rintro i i1;have hb:=Zi6 hn (i:=i);simp only [List.length_append] at hb;simp -implicitDefEqProofs only [go_sem];refine fork (fun h6=>?_) (fun h6=>?_)
   ·obtain ⟨p,hp⟩:=Z3 h6;obtain ⟨q,hq⟩:=Z3 (l:=n.ZJ) (i:=i) (by omega);have hpl:=hkl p (List.mem_of_getElem? hp);have hql:=hiff.2.2.2.2.1 q (List.mem_of_getElem? hq);have hs:=ZeC hpl;have hb2:=Zi6 hn (i:=i+1);rw [Zn2 hl hp hq,←List.append_assoc,←List.append_assoc,List.length_append,List.length_append,List.length_append] at hb2;simp -implicitDefEqProofs only [go_sem,ZM hp,ZM hq];repeat ((first|refine rq ?_|refine ZDO p (by omega) rfl ?_|refine ZDO q (by omega) rfl ?_|fail);simp -implicitDefEqProofs only [go_sem,ZM hp,ZM hq])
    rw [ZV (by simp only [LEN];omega)];refine ZP (i+1) ?_ (by omega) (by omega);rw [Zn2 hl hp hq];simp
   ·simp -implicitDefEqProofs only [go_sem];rw [Zi7 hn (by omega)];refine ZDP (Za1 n) (by omega) rfl ?_;simp -implicitDefEqProofs only [go_sem];rfl
def ZDR (n:Z1) (h1:n.Zj.length≤LEN) (h2:n.ZJ.length≤LEN) (h3:n.Zk.length≤LEN):=kf (ZDU n h1 h2 h3)
theorem ZDZ {w:ZS} {n:Z1} (h:¬ZaA n):putN w n=none:=by rw [putN,if_neg h]
theorem ZDY {w:ZS} {n:Z1} (h:(ZDM w).2=0):putN w n=none:=by
 have:=ZDW (w:=w);unfold putN;split
 ·rw [if_pos (by rw [←this];exact h)]
 ·rfl
theorem ZDX {w:ZS} {n:Z1} (h1:ZaA n) (h2:¬(ZDM w).2=0):putN w n=match Zak ⟨(ZDM w).1.pages,(ZDM w).1.late⟩ (ZDM w).2 (Zcf n) with
  |none=>none
  |some d=>some ({(Zcu w).1 with Zc:=d},(ZDM w).2):=by
 have:=ZDW (w:=w);unfold putN;rw [if_pos h1,if_neg (by rw [←this];exact h2),←this];rfl
theorem ZDT {w:ZS} (h:smallW w):Zck ⟨(ZDM w).1.pages,(ZDM w).1.late⟩:=by
 obtain ⟨e1,e2⟩:=ZD0 (w:=w);unfold Zck;rw [e1,e2];exact h.1
theorem ci_PutNode (w:ZS) (n:Z1) (hw:smallW w) (h1:n.Zj.length≤LEN) (h2:n.ZJ.length≤LEN) (h3:n.Zk.length≤LEN):ZQ Go.Proofs.Tryz.prog 40 [.d (.agg w.cells),.d (.agg n.cells)] [] [.dead,.dead] (.tup [(putO w n).1.v,.d (.int .i64 (putO w n).2)]) (putO w n).1.h:=by
 refine cof Go.Proofs.Tryz.func40 hr40 hl40 [false,false] ?_;simp -implicitDefEqProofs only [go_sem,ZS.cells,Z1.cells];refine ZDR n h1 h2 h3 rfl ?_;simp only [Zkz];by_cases hn:ZaA n
 ·have dn:=decide_eq_true hn;simp -implicitDefEqProofs only [go_sem,dn];refine ZDS w hw rfl ?_;simp -implicitDefEqProofs only [go_sem,OW.v_eq,OW.h_eq];by_cases hp:(ZDM w).2=0
  ·have dp:=decide_eq_true hp;rw [putO,ZDY hp];simp -implicitDefEqProofs only [go_sem,dp];repeat ((first|refine rq ?_|refine ZDN w hw rfl ?_|fail);simp -implicitDefEqProofs only [go_sem,OW.v_eq,OW.h_eq])
   rfl
  ·have dp:=decide_eq_false hp;have hs:=ZDT hw;have hpw:=ZDX hn hp;simp -implicitDefEqProofs only [go_sem,dp,if_pos hn];refine ZC3 ⟨(ZDM w).1.pages,(ZDM w).1.late⟩ (ZDM w).2 (Zcf n) hs (by simp -implicitDefEqProofs only [go_sem];first|done|rfl) ?_;rw [putO];cases hwr:Zak ⟨(ZDM w).1.pages,(ZDM w).1.late⟩ (ZDM w).2 (Zcf n) with
   |none=>
    rw [hwr] at hpw;simp only at hpw;rw [hpw];simp only [wrO,hwr,Option.isSome_none];simp -implicitDefEqProofs only [go_sem,OW.v_eq,OW.h_eq];repeat ((first|refine rq ?_|refine ZDN w hw rfl ?_|fail);simp -implicitDefEqProofs only [go_sem,OW.v_eq,OW.h_eq])
    rfl
   |some d=>
    rw [hwr] at hpw;simp only at hpw;rw [hpw];simp only [wrO,hwr,Option.isSome_some];simp -implicitDefEqProofs only [go_sem,OW.v_eq,OW.h_eq];repeat ((first|refine rq ?_|fail);simp -implicitDefEqProofs only [go_sem,OW.v_eq,OW.h_eq])
 ·have dn:=decide_eq_false hn;rw [putO,ZDZ hn];simp -implicitDefEqProofs only [go_sem,dn];repeat ((first|refine rq ?_|refine ZDN w hw rfl ?_|fail);simp -implicitDefEqProofs only [go_sem,OW.v_eq,OW.h_eq])
  rfl
end Go.Rx
