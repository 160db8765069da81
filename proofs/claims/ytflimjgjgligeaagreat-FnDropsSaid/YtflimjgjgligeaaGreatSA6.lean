/-
  Part A6: lemmas on an evaluator over plain data of the model's code, plain laws on lists and numbers, or contracts of functions of the program; each lemma names its conditions.
-/
import Derived.Test.YtflimjgjgligeaaGreatSA5

set_option linter.unusedSimpArgs false
set_option linter.unusedVariables false
set_option maxRecDepth 100000
set_option maxHeartbeats 16000000
set_option linter.defProp false
namespace Go.Rx
open Go
attribute [local irreducible] Req Way WayG Sel Z2 ZQ Zaz cVC Zai ZaO
@[go_sem] def hr91:ZW:=hh [[0],[1,2]]
@[go_sem] def hl91:ZW:=hh []
attribute [go_sem] Go.Proofs.Tryz.results91
theorem Zlx (d:ZT) (hd:Zck d):ZQ Go.Proofs.Tryz.prog 91 [.d (.agg d.cells)] [] [.dead] (.agg [.own 0 0 d.Zv.length,.own 1 0 d.Zm.length]) [(0,.arr 1 (strs d.Zv)),(1,.arr 2 (Zae d.Zm))]:=by
 refine cof Go.Proofs.Tryz.func91 hr91 hl91 [false] ?_;obtain ⟨h1,h2⟩:=hd;simp -implicitDefEqProofs only [go_sem,ZT.cells];repeat ((first|refine rq ?_|fail);simp -implicitDefEqProofs only [go_sem,ZT.cells])
 try rfl
def Zlj (d:ZT) (hd:Zck d):=kf (Zlx d hd)
@[go_sem] def hr102:ZW:=hh [[0],[1,2]]
@[go_sem] def hl102:ZW:=hh []
attribute [go_sem] Go.Proofs.Tryz.results102
theorem Zlw (w:ZS) (hw:smallW w):ZQ Go.Proofs.Tryz.prog 102 [.d (.agg w.cells)] [] [.dead] (.agg [.own 0 0 w.Zc.Zv.length,.own 1 0 w.Zc.Zm.length,.d (.int .i64 w.Zs),.own 2 0 w.ZH.length,.own 3 0 w.Zg.length,.own 4 0 w.Zf.length]) [(0,.arr 1 (strs w.Zc.Zv)),(1,.arr 2 (Zae w.Zc.Zm)),(2,.arr 1 (ints w.ZH)),(3,.arr 1 (ints w.Zg)),(4,.arr 1 (ints w.Zf))]:=by
 refine cof Go.Proofs.Tryz.func102 hr102 hl102 [false] ?_;have hw':=hw;obtain ⟨h0,h1,h2,h3⟩:=hw';obtain ⟨h4,h5⟩:=h0;simp -implicitDefEqProofs only [go_sem,ZS.cells];repeat ((first|refine rq ?_|refine Zlj w.Zc hw.1 rfl ?_|fail);simp -implicitDefEqProofs only [go_sem,ZT.cells])
 try rfl
def Zc3 (w:ZS) (hw:smallW w):=kf (Zlw w hw)
@[go_sem] def hr93:ZW:=hh [[0],[1],[1,3],[1,3],[1,3],[],[1],[1,4],[1,4],[1,4],[],[1]]
@[go_sem] def hl93:ZW:=hh [[],[],[1,3],[],[],[],[],[1,4]]
attribute [go_sem] Go.Proofs.Tryz.results93
theorem ZvH (d:ZT) (hd:Zck d):ZQ Go.Proofs.Tryz.prog 93 [.d (.agg d.cells)] [] [.dead] (.d (.bool (decide (Za5 d)))) []:=by
 refine cof Go.Proofs.Tryz.func93 hr93 hl93 [false] ?_;obtain ⟨h1,h2⟩:=hd;simp -implicitDefEqProofs only [go_sem,ZT.cells];refine ZY (α:=Nat) (fun i=>⟨[(1,.ref 0 0),(3,.d (.int .i64 i))],[(0,some (.box [.d (.sl (strs d.Zv)),.d (.sl (Zae d.Zm))]))]⟩)
  (fun i=>i≤d.Zv.length∧∀s∈d.Zv.take i,s.length≤240) (fun i=>d.Zv.length - i) 0 rfl ⟨Nat.zero_le _,by simp⟩ ?_
 rintro i ⟨i1,i2⟩;simp -implicitDefEqProofs only [go_sem];refine fork (fun h5=>?_) (fun h5=>?_)
 ·obtain ⟨p,hp⟩:=Z3 h5;have hmem:=List.mem_of_getElem? hp;simp -implicitDefEqProofs only [go_sem,ZM hp];repeat ((first|refine rq ?_|fail);simp -implicitDefEqProofs only [go_sem,ZM hp])
  refine fork (fun h6=>?_) (fun h6=>?_)
  ·simp -implicitDefEqProofs only [go_sem];have:¬Za5 d:=fun h=>by have:=h.2.2.2.1 p hmem;omega
   simp [this]
  ·simp -implicitDefEqProofs only [go_sem];repeat ((first|refine rq ?_|fail);simp -implicitDefEqProofs only [go_sem])
   rw [ZV (by simp only [LEN];omega)];refine ZP (i+1) rfl ⟨by omega,fun s hs=>?_⟩ (by omega);rcases ZbG hp hs with hs|rfl
   ·exact i2 s hs
   ·omega
 ·rw [List.take_of_length_le (by omega)] at i2;simp -implicitDefEqProofs only [go_sem];refine ZY (α:=Nat) (fun i=>⟨[(1,.ref 0 0),(4,.d (.int .i64 i))],[(0,some (.box [.d (.sl (strs d.Zv)),.d (.sl (Zae d.Zm))]))]⟩)
   (fun i=>i≤d.Zm.length∧∀s∈d.Zm.take i,Za9 d s.Zu∧s.ZC.length≤240) (fun i=>d.Zm.length - i) 0 rfl ⟨Nat.zero_le _,by simp⟩ ?_
  rintro i ⟨i3,i4⟩;simp -implicitDefEqProofs only [go_sem];refine fork (fun h6=>?_) (fun h6=>?_)
  ·obtain ⟨p,hp⟩:=Z3 h6;have hmem:=List.mem_of_getElem? hp;have hw:IntKind.i64.wrap ((d.Zv.length:Int) - 1)=(d.Zv.length:Int) - 1:=Zad (by omega) (by omega);have hdec:decide (0≤p.Zu∧p.Zu≤(d.Zv.length:Int) - 1)=decide (Za9 d p.Zu):=by
    rw [decide_eq_decide];unfold Za9;omega
   cases hq:decide (Za9 d p.Zu)
   ·rw [hq] at hdec;simp -implicitDefEqProofs only [go_sem,ZaY hp,hw];repeat ((first|refine rq ?_|refine Zbx _ _ _ rfl ?_|fail);simp -implicitDefEqProofs only [go_sem,ZaY hp,hw,hdec])
    have:¬Za5 d:=fun h=>(of_decide_eq_false hq) (h.2.2.2.2 p hmem).1
    simp [this]
   ·rw [hq] at hdec;cases ht:decide ((240:Int)<p.ZC.length)
    ·simp -implicitDefEqProofs only [go_sem,ZaY hp,hw];repeat ((first|refine rq ?_|refine Zbx _ _ _ rfl ?_|fail);simp -implicitDefEqProofs only [go_sem,ZaY hp,hw,hdec,ht])
     rw [ZV (by simp only [LEN];omega)];refine ZP (i+1) rfl ⟨by omega,fun s hs=>?_⟩ (by omega);rcases ZbG hp hs with hs|rfl
     ·exact i4 s hs
     ·exact ⟨of_decide_eq_true hq,by have:=of_decide_eq_false ht;omega⟩
    ·simp -implicitDefEqProofs only [go_sem,ZaY hp,hw];repeat ((first|refine rq ?_|refine Zbx _ _ _ rfl ?_|fail);simp -implicitDefEqProofs only [go_sem,ZaY hp,hw,hdec,ht])
     have:¬Za5 d:=fun h=>by have:=of_decide_eq_true ht;have:=(h.2.2.2.2 p hmem).2;omega
     simp [this]
  ·rw [List.take_of_length_le (by omega)] at i4;simp -implicitDefEqProofs only [go_sem];cases g1:decide ((4:Int)≤d.Zv.length∧(d.Zv.length:Int)≤40)
   ·repeat ((first|refine rq ?_|refine Zbx _ _ _ rfl ?_|fail);simp -implicitDefEqProofs only [go_sem,g1])
    have:¬Za5 d:=fun h=>(of_decide_eq_false g1) ⟨by have:=h.1;omega,by have:=h.2.1;omega⟩
    simp [this]
   ·repeat ((first|refine rq ?_|refine Zbx _ _ _ rfl ?_|fail);simp -implicitDefEqProofs only [go_sem,g1])
    have:=of_decide_eq_true g1;have:decide ((d.Zm.length:Int)≤200)=decide (Za5 d):=by
     rw [decide_eq_decide];exact ⟨fun h=>⟨by omega,by omega,by omega,i2,i4⟩,fun h=>by have:=h.2.2.1;omega⟩
    rw [this]
def Zhj (d:ZT) (hd:Zck d):=kf (ZvH d hd)
def putW (w:ZS) (n:Z1):ZS×Int:=match putN w n with
 |none=>(w,0)
 |some (w',p)=>(w',p)
@[go_sem] def hr112:ZW:=hh [[0,1,2],[1,2,3,6],[1,2,3,6,8],[6,8],[1,2,6,8],[6,8]]
@[go_sem] def hl112:ZW:=hh []
attribute [go_sem] Go.Proofs.Tryz.results112
theorem ZiB (d:ZT) (p:Int) (t:List UInt8) (hd:Zck d):ZQ Go.Proofs.Tryz.prog 112 [.d (.agg d.cells),.d (.int .i64 p),.d (.str t)] [] [.dead,.dead,.dead] (.tup [.agg [.own 0 0 d.Zv.length,.own 1 0 (wrO d p t).length],.d (.bool (Zak d p t).isSome)]) [(0,.arr 1 (strs d.Zv)),(1,.arr 2 (Zae (wrO d p t)))]:=by
 refine cof Go.Proofs.Tryz.func112 hr112 hl112 [false,false,false] ?_;have hd':=hd;obtain ⟨h1,h2⟩:=hd';have hw:IntKind.i64.wrap ((d.Zv.length:Int) - 1)=(d.Zv.length:Int) - 1:=Zad (by omega) (by omega);simp -implicitDefEqProofs only [go_sem,ZT.cells];refine Zlj d hd rfl ?_;simp -implicitDefEqProofs only [go_sem];refine Zhj d hd rfl ?_;unfold wrO;by_cases g1:Za5 d
 ·have d1:=decide_eq_true g1;have hl:=g1.2.2.1;by_cases g2:Za9 d p
  ·have d2:=decide_eq_true g2;have d2':decide (0≤p∧p≤(d.Zv.length:Int) - 1)=true:=d2;by_cases g3:(240:Int)<t.length
   ·have d3:=decide_eq_true g3;have hw2:Zak d p t=none:=by rw [Zak,if_neg (fun h=>by have:=h.2.2.1;omega)]
    simp only [hw2];simp -implicitDefEqProofs only [go_sem,d1,hw];repeat ((first|refine rq ?_|refine Zbx _ _ _ rfl ?_|fail);simp -implicitDefEqProofs only [go_sem,d1,d2',d3,hw])
    rfl
   ·have d3:=decide_eq_false g3;by_cases g4:((d.Zm.length:Nat):Int)=200
    ·have d4:=decide_eq_true g4;have hw2:Zak d p t=none:=by rw [Zak,if_neg (fun h=>by have:=h.2.2.2;omega)]
     simp only [hw2];simp -implicitDefEqProofs only [go_sem,d1,hw];repeat ((first|refine rq ?_|refine Zbx _ _ _ rfl ?_|fail);simp -implicitDefEqProofs only [go_sem,d1,d2',d3,d4,hw])
     try first|rfl|simp
    ·have d4:=decide_eq_false g4;have hw2:Zak d p t=some {d with Zm:=d.Zm++[⟨p,t⟩]}:=by rw [Zak,if_pos ⟨g1,g2,by omega,by omega⟩]
     simp only [hw2];simp -implicitDefEqProofs only [go_sem,d1,hw];repeat ((first|refine rq ?_|refine Zbx _ _ _ rfl ?_|fail);simp -implicitDefEqProofs only [go_sem,d1,d2',d3,d4,hw])
     try first|rfl|simp
  ·have d2:decide (0≤p∧p≤(d.Zv.length:Int) - 1)=false:=decide_eq_false g2;have hw2:Zak d p t=none:=by rw [Zak,if_neg (fun h=>g2 h.2.1)]
   simp only [hw2];simp -implicitDefEqProofs only [go_sem,d1,hw];repeat ((first|refine rq ?_|refine Zbx _ _ _ rfl ?_|fail);simp -implicitDefEqProofs only [go_sem,d1,d2,hw])
   rfl
 ·have d1:=decide_eq_false g1;have hw2:Zak d p t=none:=by rw [Zak,if_neg (fun h=>g1 h.1)]
  simp only [hw2];simp -implicitDefEqProofs only [go_sem,d1,hw];repeat ((first|refine rq ?_|refine Zbx _ _ _ rfl ?_|fail);simp -implicitDefEqProofs only [go_sem,d1,hw])
  rfl
def Zns (d:ZT) (p:Int) (t:List UInt8) (hd:Zck d):=kf (ZiB d p t hd)
@[go_sem] def hr111:ZW:=hh [[0],[1,2],[1,2,4],[1,2,4],[1,2,4],[1,2,4],[1,2,4],[2,4],[1,2,4],[1,2,4],[1,2,4]]
@[go_sem] def hl111:ZW:=hh []
attribute [go_sem] Go.Proofs.Tryz.results111
theorem ZpQ (w:ZS) (hw:smallW w):ZQ Go.Proofs.Tryz.prog 111 [.d (.agg w.cells)] [] [.dead] (.tup [(ofW (Zcu w).1).v,.d (.int .i64 (Zcu w).2)]) (ofW (Zcu w).1).h:=by
 refine cof Go.Proofs.Tryz.func111 hr111 hl111 [false] ?_;have hw':=hw;obtain ⟨⟨h1,h2⟩,h3,h4,h5⟩:=hw';simp -implicitDefEqProofs only [go_sem,ZS.cells];refine Zc3 w hw rfl ?_;simp -implicitDefEqProofs only [go_sem];unfold Zcu;cases hu:w.ZH with
 |nil=>
  have d0:decide ((0:Int)<((0:Nat):Int))=false:=rfl;by_cases hn:(w.Zc.Zv.length:Int)≤w.Zs
  ·have dn:=decide_eq_true hn;simp only [if_pos hn];simp -implicitDefEqProofs only [go_sem,d0,dn,hu];repeat ((first|refine rq ?_|fail);simp -implicitDefEqProofs only [go_sem,d0,dn,hu])
   simp [OW.v_eq,OW.h_eq,ofW,hu,ints]
  ·have dn:=decide_eq_false hn;simp only [if_neg hn];simp -implicitDefEqProofs only [go_sem,d0,dn,hu];repeat ((first|refine rq ?_|fail);simp -implicitDefEqProofs only [go_sem,d0,dn,hu])
   simp [OW.v_eq,OW.h_eq,ofW,hu,ints]
 |cons u us=>
  have d0:decide ((0:Int)<((us.length+1:Nat):Int))=true:=decide_eq_true (by omega);have hg0:lget (ints (u::us)) 0=[.int .i64 u]:=ZO rfl;have hul:us.length+1≤1048576:=by have:=h3;rw [hu] at this;simpa using this
  have hcut:List.drop (Int.toNat 1) (List.take (us.length+1) (ints (u::us)))=ints us:=by rw [List.take_of_length_le (by simp [ints])];rfl
  simp -implicitDefEqProofs only [go_sem,hu,d0,hg0,hcut];repeat ((first|refine rq ?_|fail);simp -implicitDefEqProofs only [go_sem,hu,d0,hg0,hcut])
  first|rfl|simp [OW.v_eq,OW.h_eq,ofW]
theorem Zo8 {h:Heap} {tb:Nat} {K:OK} {args:List V} {ls:List Nat} (w:ZS) (hw:smallW w) (hg:toDs h args=some ([.agg w.cells],ls))
  (hk:K (renV (bk tb ((ofW (Zcu w).1).h)) (.tup [(ofW (Zcu w).1).v,.d (.int .i64 (Zcu w).2)])) (updN tb ((ofW (Zcu w).1).h) ((ofW (Zcu w).1).h))):Z2 Go.Proofs.Tryz.prog h tb 111 args K:=
 ZcM hg (ZpQ w hw) rfl (.inr ⟨Ze9 rfl,Zre⟩) hk
@[go_sem] def hr41:ZW:=hh [[0,1],[2,3,4],[2,4,6,7],[2,4],[2,4,6],[2,4,6,8,9],[2,4],[2,4,6,8,9],[2,4,8,9,10,11],[2,4],[4,8,9,10],[4,8,9]]
@[go_sem] def hl41:ZW:=hh []
attribute [go_sem] Go.Proofs.Tryz.results41
theorem Zly (w:ZS) (n:Z1) (hw:smallW w) (h1:n.Zj.length≤LEN) (h2:n.ZJ.length≤LEN) (h3:n.Zk.length≤LEN):ZQ Go.Proofs.Tryz.prog 41 [.d (.agg w.cells),.d (.agg n.cells)] [] [.dead,.dead] (.tup [(ofW (putW w n).1).v,.d (.int .i64 (putW w n).2)]) (ofW (putW w n).1).h:=by
 refine cof Go.Proofs.Tryz.func41 hr41 hl41 [false,false] ?_;simp -implicitDefEqProofs only [go_sem,ZS.cells,Z1.cells];refine Zcs n h1 h2 h3 rfl ?_;simp only [Zkz];unfold putW;by_cases hn:ZaA n
 ·have dn:=decide_eq_true hn;simp -implicitDefEqProofs only [go_sem,dn,if_pos hn];obtain ⟨g1,g2,g3,g4⟩:=Zj0 hw;refine Zo8 w hw rfl ?_;rw [putN,if_pos hn];generalize hv:Zcu w=v at g1 g2 g3 g4 ⊢;obtain ⟨w1,p⟩:=v;simp only at g1 g2 g3 g4 ⊢;have hd1:Zck w1.Zc:=by rw [g1];exact hw.1
  simp -implicitDefEqProofs only [go_sem,OW.v_eq,OW.h_eq];repeat ((first|refine rq ?_|fail);simp -implicitDefEqProofs only [go_sem,OW.v_eq,OW.h_eq])
  by_cases hp:p=0
  ·have dp:=decide_eq_true hp;rw [if_pos hp];simp -implicitDefEqProofs only [go_sem,dp];repeat ((first|refine rq ?_|refine Zc3 w hw rfl ?_|fail);simp -implicitDefEqProofs only [go_sem,OW.v_eq,OW.h_eq])
   first|rfl|simp [OW.v_eq,OW.h_eq,ofW]
  ·have dp:=decide_eq_false hp;rw [if_neg hp];simp -implicitDefEqProofs only [go_sem,dp];refine Zns w1.Zc p (Zcf n) hd1 (by simp -implicitDefEqProofs only [go_sem];first|done|rfl) ?_;unfold wrO;cases hwr:Zak w1.Zc p (Zcf n) with
   |none=>
    simp only [Option.isSome_none];simp -implicitDefEqProofs only [go_sem,OW.v_eq,OW.h_eq];repeat ((first|refine rq ?_|refine Zc3 w hw rfl ?_|fail);simp -implicitDefEqProofs only [go_sem,OW.v_eq,OW.h_eq])
    first|rfl|simp [OW.v_eq,OW.h_eq,ofW]
   |some d=>
    obtain rfl:d= {w1.Zc with Zm:=w1.Zc.Zm++[⟨p,Zcf n⟩]}:=by
     unfold Zak at hwr;split at hwr
     ·exact (Option.some.inj hwr).symm
     ·cases hwr
    simp only [Option.isSome_some];simp -implicitDefEqProofs only [go_sem,OW.v_eq,OW.h_eq];repeat ((first|refine rq ?_|fail);simp -implicitDefEqProofs only [go_sem,OW.v_eq,OW.h_eq])
    first|rfl|simp [OW.v_eq,OW.h_eq,ofW]
 ·have dn:=decide_eq_false hn;have hpn:putN w n=none:=by rw [putN,if_neg hn]
  rw [hpn];simp -implicitDefEqProofs only [go_sem,dn];repeat ((first|refine rq ?_|refine Zc3 w hw rfl ?_|fail);simp -implicitDefEqProofs only [go_sem,OW.v_eq,OW.h_eq])
  first|rfl|simp [OW.v_eq,OW.h_eq,ofW]
theorem Zll {h:Heap} {tb:Nat} {K:OK} {args:List V} {ls:List Nat} (w:ZS) (n:Z1) (hw:smallW w) (h1:n.Zj.length≤LEN) (h2:n.ZJ.length≤LEN) (h3:n.Zk.length≤LEN) (hg:toDs h args=some ([.agg w.cells,.agg n.cells],ls))
  (hk:K (renV (bk tb ((ofW (putW w n).1).h)) (.tup [(ofW (putW w n).1).v,.d (.int .i64 (putW w n).2)])) (updN tb ((ofW (putW w n).1).h) ((ofW (putW w n).1).h))):Z2 Go.Proofs.Tryz.prog h tb 41 args K:=
 ZcM hg (Zly w n hw h1 h2 h3) rfl (.inr ⟨Ze9 rfl,Zre⟩) hk
end Go.Rx
