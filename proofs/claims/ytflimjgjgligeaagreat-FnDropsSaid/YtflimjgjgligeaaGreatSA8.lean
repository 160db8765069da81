/-
  Part A8: lemmas on an evaluator over plain data of the model's code, plain laws on lists and numbers, or contracts of functions of the program; each lemma names its conditions.
-/
import Derived.Test.YtflimjgjgligeaaGreatSA1
import Derived.Test.YtflimjgjgligeaaGreatSP2
import Derived.Test.YtflimjgjgligeaaGreatSE6

set_option linter.unusedSimpArgs false
set_option linter.unusedVariables false
set_option maxRecDepth 100000
set_option maxHeartbeats 16000000
set_option linter.defProp false
namespace Go.Rx
open Go
attribute [local irreducible] Req Way WayG Sel Z2 ZQ Zaz cVC Zai ZaO
@[go_sem] def hr71:ZW:=hh [[0],[0],[0],[0,3],[0,3],[0,3],[0,3]]
@[go_sem] def hl71:ZW:=hh []
attribute [go_sem] Go.Proofs.Tryz.results71
theorem ZsI (c:Cur) (hc:c.ok):ZQ Go.Proofs.Tryz.prog 71 [.ref 0 0] [(0,.box c.cells)] [.ref 0 0] (.d (.int .i64 c.byte.1)) [(0,.box c.byte.2.cells)]:=by
 refine cof Go.Proofs.Tryz.func71 hr71 hl71 [true] ?_;simp -implicitDefEqProofs only [go_sem,Cur.cells];obtain ⟨hc1,hc2⟩:=hc;repeat ((first|refine rq ?_|fail);simp -implicitDefEqProofs only [go_sem,Za4])
 refine Zfi (fun h1=>?_) (fun h1=>?_)
 ·obtain ⟨p,hp⟩:=Z3 h1;simp -implicitDefEqProofs only [go_sem,Za4,ZiZ hp];repeat ((first|refine rq ?_|fail);simp -implicitDefEqProofs only [go_sem,Za4,ZiZ hp])
  rw [ZV (by simp only [LEN];omega)];simp only [Cur.byte,hp];rfl
 ·simp -implicitDefEqProofs only [go_sem,Za4];repeat ((first|refine rq ?_|fail);simp -implicitDefEqProofs only [go_sem,Za4])
  have hp:c.b[c.i]? =none:=by simp;omega
  simp only [Cur.byte,hp];rfl
theorem ZeK {h:Heap} {tb:Nat} {K:OK} {n0:Nat} {rest:List V} (c:Cur) (hc:c.ok) (hn:h n0=some (.box c.cells)) (hro:refO h n0=[n0]) (hr:toDs h rest=some ([],[])) (hnl:([]:List Nat).contains n0=false)
  (hk:K (renV (bx n0 tb [(0,.box c.byte.2.cells)]) (.d (.int .i64 c.byte.1))) ((bif false then ([]:List Nat).map (·,none) else [])++(n0,none)::updX n0 tb [(0,.box c.byte.2.cells)] [(0,.box c.byte.2.cells)])):Z2 Go.Proofs.Tryz.prog h tb 71 (.ref n0 0::rest) K:=
 Zbz false hn hro rfl hr hnl (ZsI c hc) rfl rfl (.inr (.inl rfl)) hk
@[go_sem] def hr72:ZW:=hh [[0,1],[0,1],[0],[0,1],[0,1],[0,1],[0,1,5],[0,1,5,6],[0,1,5,6,7],[0,1,5,6,7,8]]
@[go_sem] def hl72:ZW:=hh []
attribute [go_sem] Go.Proofs.Tryz.results72
theorem ZpC (c:Cur) (n:Int) (hc:c.ok):ZQ Go.Proofs.Tryz.prog 72 [.ref 0 0,.d (.int .i64 n)] [(0,.box c.cells)] [.ref 0 0,.dead] (.d (.int .i64 (c.below n).1)) [(0,.box (c.below n).2.cells)]:=by
 refine cof Go.Proofs.Tryz.func72 hr72 hl72 [true,false] ?_;simp -implicitDefEqProofs only [go_sem,Cur.cells];refine Zfi (fun h1=>?_) (fun h1=>?_)
 ·simp -implicitDefEqProofs only [go_sem,Cur.cells];simp only [Cur.below,if_pos h1]
 ·simp -implicitDefEqProofs only [go_sem,Cur.cells];refine Zfi (fun h2=>?_) (fun h2=>?_)
  ·simp -implicitDefEqProofs only [go_sem,Cur.cells];repeat ((first|refine ZeK c hc rfl rfl rfl rfl ?_|refine rq ?_|fail);simp -implicitDefEqProofs only [go_sem,Cur.cells])
   simp only [Cur.below,if_neg h1,if_pos h2]
  ·have g1:=Cur.byte_range (c:=c);have g2:=Cur.byte_range (c:=c.byte.2);have g3:=Cur.byte_range (c:=c.byte.2.byte.2);have g4:=Cur.byte_range (c:=c.byte.2.byte.2.byte.2);have o1:=Cur.byte_ok hc;have o2:=Cur.byte_ok o1;have o3:=Cur.byte_ok o2;simp -implicitDefEqProofs only [go_sem,Cur.cells];repeat ((first|refine ZeK c.byte.2.byte.2.byte.2 o3 rfl rfl rfl rfl ?_|refine ZeK c.byte.2.byte.2 o2 rfl rfl rfl rfl ?_|refine ZeK c.byte.2 o1 rfl rfl rfl rfl ?_|refine ZeK c hc rfl rfl rfl rfl ?_|refine rq ?_|fail);simp -implicitDefEqProofs only [go_sem,Cur.cells])
   simp only [Cur.below,if_neg h1,if_neg h2];rw [Zad (n:=c.byte.1*16777216) (by omega) (by omega),Zad (n:=c.byte.2.byte.1*65536) (by omega) (by omega),Zad (n:=c.byte.2.byte.2.byte.1*256) (by omega) (by omega),
    Zad (n:=c.byte.1*16777216+c.byte.2.byte.1*65536) (by omega) (by omega),Zad (n:=c.byte.1*16777216+c.byte.2.byte.1*65536+c.byte.2.byte.2.byte.1*256) (by omega) (by omega),
    Zad (n:=c.byte.1*16777216+c.byte.2.byte.1*65536+c.byte.2.byte.2.byte.1*256+c.byte.2.byte.2.byte.2.byte.1) (by omega) (by omega)]
theorem Za0 {h:Heap} {tb:Nat} {K:OK} {n0:Nat} {rest:List V} (c:Cur) (n:Int) (hc:c.ok) (hn:h n0=some (.box c.cells)) (hro:refO h n0=[n0]) (hr:toDs h rest=some ([.int .i64 n],[])) (hnl:([]:List Nat).contains n0=false)
  (hk:K (renV (bx n0 tb [(0,.box (c.below n).2.cells)]) (.d (.int .i64 (c.below n).1))) ((bif false then ([]:List Nat).map (·,none) else [])++(n0,none)::updX n0 tb [(0,.box (c.below n).2.cells)] [(0,.box (c.below n).2.cells)])):Z2 Go.Proofs.Tryz.prog h tb 72 (.ref n0 0::rest) K:=
 Zbz false hn hro rfl hr hnl (ZpC c n hc) rfl rfl (.inr (.inl rfl)) hk
@[go_sem] def hr121:ZW:=hh [[0,1],[0,1]]
@[go_sem] def hl121:ZW:=hh []
attribute [go_sem] Go.Proofs.Tryz.results121
theorem ZsH (c:Cur) (n:Int) (hc:c.ok):ZQ Go.Proofs.Tryz.prog 121 [.ref 0 0,.d (.int .i64 n)] [(0,.box c.cells)] [.ref 0 0,.dead] (.d (.bool (c.once n).1)) [(0,.box (c.once n).2.cells)]:=by
 refine cof Go.Proofs.Tryz.func121 hr121 hl121 [true,false] ?_;simp -implicitDefEqProofs only [go_sem,Cur.cells];repeat ((first|refine Za0 c n hc rfl rfl rfl rfl ?_|refine rq ?_|fail);simp -implicitDefEqProofs only [go_sem,Cur.cells])
 rfl
theorem Zbu {h:Heap} {tb:Nat} {K:OK} {n0:Nat} {rest:List V} (c:Cur) (n:Int) (hc:c.ok) (hn:h n0=some (.box c.cells)) (hro:refO h n0=[n0]) (hr:toDs h rest=some ([.int .i64 n],[])) (hnl:([]:List Nat).contains n0=false)
  (hk:K (renV (bx n0 tb [(0,.box (c.once n).2.cells)]) (.d (.bool (c.once n).1))) ((bif false then ([]:List Nat).map (·,none) else [])++(n0,none)::updX n0 tb [(0,.box (c.once n).2.cells)] [(0,.box (c.once n).2.cells)])):Z2 Go.Proofs.Tryz.prog h tb 121 (.ref n0 0::rest) K:=
 Zbz false hn hro rfl hr hnl (ZsH c n hc) rfl rfl (.inr (.inl rfl)) hk
@[go_sem] def hr120:ZW:=hh [[0,1],[0,1]]
@[go_sem] def hl120:ZW:=hh []
attribute [go_sem] Go.Proofs.Tryz.results120
theorem ZsG (c:Cur) (l:List (List UInt8)) (hl:l≠ []) (hc:c.ok):ZQ Go.Proofs.Tryz.prog 120 [.ref 0 0,.d (.sl (strs l))] [(0,.box c.cells)] [.ref 0 0,.dead] (.d (.str (c.pick l).1)) [(0,.box (c.pick l).2.cells)]:=by
 refine cof Go.Proofs.Tryz.func120 hr120 hl120 [true,false] ?_;have hl':0<l.length:=List.length_pos_iff.2 hl;have hr:=Cur.below_range (c:=c) (n:=l.length) (by omega);obtain ⟨p,hp⟩:=Z3 (l:=l) (i:=(c.below l.length).1.toNat) (by omega);have hpk:(c.pick l).1=p:=by unfold Cur.pick;simp [List.getD,hp]
 simp -implicitDefEqProofs only [go_sem,Cur.cells,ZdT];repeat ((first|refine Za0 c _ hc rfl rfl rfl rfl ?_|refine req (by first|exact hr.1|exact hr.2) ?_|refine rq ?_|fail);simp -implicitDefEqProofs only [go_sem,Cur.cells,ZdT,ZM hp])
 rw [hpk];rfl
theorem ZhW {h:Heap} {tb:Nat} {K:OK} {n0:Nat} {rest:List V} {ls:List Nat} (c:Cur) (l:List (List UInt8)) (hl:l≠ []) (hc:c.ok) (hn:h n0=some (.box c.cells)) (hro:refO h n0=[n0]) (hr:toDs h rest=some ([.sl (strs l)],ls)) (hnl:(ls:List Nat).contains n0=false)
  (hk:K (renV (bx n0 tb [(0,.box (c.pick l).2.cells)]) (.d (.str (c.pick l).1))) ((bif true then (ls:List Nat).map (·,none) else [])++(n0,none)::updX n0 tb [(0,.box (c.pick l).2.cells)] [(0,.box (c.pick l).2.cells)])):Z2 Go.Proofs.Tryz.prog h tb 120 (.ref n0 0::rest) K:=
 Zbz true hn hro rfl hr hnl (ZsG c l hl hc) rfl rfl (.inl rfl) hk
@[go_sem] def hr173:ZW:=hh [[0,1],[0,1]]
@[go_sem] def hl173:ZW:=hh []
attribute [go_sem] Go.Proofs.Tryz.results173
theorem Zmq (c:Cur) (l:List Int) (hl:l≠ []) (hc:c.ok):ZQ Go.Proofs.Tryz.prog 173 [.ref 0 0,.d (.sl (ints l))] [(0,.box c.cells)] [.ref 0 0,.dead] (.d (.int .i64 (c.pickI l).1)) [(0,.box (c.pickI l).2.cells)]:=by
 refine cof Go.Proofs.Tryz.func173 hr173 hl173 [true,false] ?_;have hl':0<l.length:=List.length_pos_iff.2 hl;have hr:=Cur.below_range (c:=c) (n:=l.length) (by omega);obtain ⟨p,hp⟩:=Z3 (l:=l) (i:=(c.below l.length).1.toNat) (by omega);have hpk:(c.pickI l).1=p:=by unfold Cur.pickI;simp [List.getD,hp]
 simp -implicitDefEqProofs only [go_sem,Cur.cells,Za7];repeat ((first|refine Za0 c _ hc rfl rfl rfl rfl ?_|refine req (by first|exact hr.1|exact hr.2) ?_|refine rq ?_|fail);simp -implicitDefEqProofs only [go_sem,Cur.cells,Za7,ZO hp])
 rw [hpk];rfl
theorem Zmg {h:Heap} {tb:Nat} {K:OK} {n0:Nat} {rest:List V} {ls:List Nat} (c:Cur) (l:List Int) (hl:l≠ []) (hc:c.ok) (hn:h n0=some (.box c.cells)) (hro:refO h n0=[n0]) (hr:toDs h rest=some ([.sl (ints l)],ls)) (hnl:(ls:List Nat).contains n0=false)
  (hk:K (renV (bx n0 tb [(0,.box (c.pickI l).2.cells)]) (.d (.int .i64 (c.pickI l).1))) ((bif true then (ls:List Nat).map (·,none) else [])++(n0,none)::updX n0 tb [(0,.box (c.pickI l).2.cells)] [(0,.box (c.pickI l).2.cells)])):Z2 Go.Proofs.Tryz.prog h tb 173 (.ref n0 0::rest) K:=
 Zbz true hn hro rfl hr hnl (Zmq c l hl hc) rfl rfl (.inl rfl) hk
@[go_sem] def hr83:ZW:=hh [[0],[0]]
@[go_sem] def hl83:ZW:=hh []
attribute [go_sem] Go.Proofs.Tryz.results83
theorem Zvx (c:Cur) (hc:c.ok):ZQ Go.Proofs.Tryz.prog 83 [.ref 0 0] [(0,.box c.cells)] [.ref 0 0] (.d (.str c.key.1)) [(0,.box c.key.2.cells)]:=by
 refine cof Go.Proofs.Tryz.func83 hr83 hl83 [true] ?_;simp -implicitDefEqProofs only [go_sem,Cur.cells];repeat ((first|refine ZhW c keyL (by decide) hc rfl rfl rfl rfl ?_|refine rq ?_|fail);simp -implicitDefEqProofs only [go_sem,Cur.cells])
 try rfl
theorem ZbR {h:Heap} {tb:Nat} {K:OK} {n0:Nat} {rest:List V} (c:Cur) (hc:c.ok) (hn:h n0=some (.box c.cells)) (hro:refO h n0=[n0]) (hr:toDs h rest=some ([],[])) (hnl:([]:List Nat).contains n0=false)
  (hk:K (renV (bx n0 tb [(0,.box c.key.2.cells)]) (.d (.str c.key.1))) ((bif false then ([]:List Nat).map (·,none) else [])++(n0,none)::updX n0 tb [(0,.box c.key.2.cells)] [(0,.box c.key.2.cells)])):Z2 Go.Proofs.Tryz.prog h tb 83 (.ref n0 0::rest) K:=
 Zbz false hn hro rfl hr hnl (Zvx c hc) rfl rfl (.inr (.inl rfl)) hk
@[go_sem] def hr69:ZW:=hh [[0],[0],[0,3],[0,3,4],[0,3,4],[0,3,4],[0,3]]
@[go_sem] def hl69:ZW:=hh [[],[],[],[0,3,4]]
attribute [go_sem] Go.Proofs.Tryz.results69
theorem Zvy (code:List UInt8) (hl:code.length≤1048576):ZQ Go.Proofs.Tryz.prog 69 [.d (.sl (bys code))] [] [.dead] (.ref 0 0) [(0,.box (Cur.new code).cells)]:=by
 refine cof Go.Proofs.Tryz.func69 hr69 hl69 [false] ?_;simp -implicitDefEqProofs only [go_sem,Za4];refine ZY (α:=Nat×Int) (fun x=>⟨[(0,.d (.sl (bys code))),(3,.d (.int .i64 x.2)),(4,.d (.int .i64 x.1))],[]⟩)
  (fun x=>x.1≤code.length∧x.1≤4000∧x.2=(code.take x.1).foldl Zq6 (IntKind.i64.wrap (38301+code.length))) (fun x=>4000 - x.1) (0,IntKind.i64.wrap (38301+code.length)) rfl ⟨Nat.zero_le _,Nat.zero_le _,rfl⟩ ?_
 rintro ⟨i,h⟩ ⟨h2,h3,h4⟩;simp only at h2 h3 h4;simp -implicitDefEqProofs only [go_sem,Za4];refine ZlT (fun h5=>?_) (fun h5=>?_)
 ·simp -implicitDefEqProofs only [go_sem,Za4];refine Zfi (fun h6=>?_) (fun h6=>?_)
  ·obtain ⟨p,hp⟩:=Z3 h5;simp -implicitDefEqProofs only [go_sem,Za4,ZiZ hp];repeat ((first|refine rq ?_|fail);simp -implicitDefEqProofs only [go_sem,Za4,ZiZ hp])
   rw [ZV (by simp only [LEN];omega)];refine ZP (i+1,Zq6 h p) rfl ⟨?_,?_,?_⟩ ?_
   ·simp only;omega
   ·simp only;omega
   ·simp only;rw [Z7 hp,List.foldl_append,←h4,List.foldl_cons,List.foldl_nil]
   ·simp only;omega
  ·simp -implicitDefEqProofs only [go_sem,Za4];repeat ((first|refine rq ?_|fail);simp -implicitDefEqProofs only [go_sem,Za4])
   rw [Zq7 h2 h3 h4 (.inr (by omega))];rfl
 ·simp -implicitDefEqProofs only [go_sem,Za4];repeat ((first|refine rq ?_|fail);simp -implicitDefEqProofs only [go_sem,Za4])
  rw [Zq7 h2 h3 h4 (.inl (by omega))];rfl
def Znr (code:List UInt8) (hl:code.length≤1048576):=kf (Zvy code hl)
theorem Zgz {l:List ZR} {a b:List UInt8}:(Zaj l).take l.length++[[D.str a,D.str b]]=Zaj (l++[⟨a,b⟩]):=by
 rw [ZeR];simp [Zaj,ZR.cells]
@[go_sem] def hr52:ZW:=hh [[0,1,2],[0,1,2],[0,1,2,7],[0,1,2,7,8],[0,1,2,7,8],[0,1,2,7,8],[0,1,2,7,8],[0,1,2,7],[0,1,7],[0,1,7,9],[0,1,7,9],[0,1,7,9],[0,1,7,9],[7]]
@[go_sem] def hl52:ZW:=hh [[],[],[],[0,1,2,7,8],[],[],[],[],[],[0,1,7,9]]
attribute [go_sem] Go.Proofs.Tryz.results52
theorem ZpN (l:List ZR) (key val:List UInt8) (hl:l.length≤1048576):ZQ Go.Proofs.Tryz.prog 52 [.d (.sl (Zaj l)),.d (.str key),.d (.str val)] [] [.dead,.dead,.dead] (.own 0 0 (mput l key val).length) [(0,.arr 2 (Zaj (mput l key val)))]:=by
 refine cof Go.Proofs.Tryz.func52 hr52 hl52 [false,false,false] ?_;simp -implicitDefEqProofs only [go_sem,ZaG];repeat ((first|refine rq ?_|fail);simp -implicitDefEqProofs only [go_sem,ZaG])
 refine ZY (α:=Nat) (fun i=>⟨[(0,.d (.sl (Zaj l))),(1,.d (.str key)),(2,.d (.str val)),(7,.own 0 0 (Zd1 (l.take i) key).length),(8,.d (.int .i64 i))],[(0,some (.arr 2 (Zaj (Zd1 (l.take i) key))))]⟩)
  (fun i=>i≤l.length) (fun i=>l.length - i) 0 rfl (Nat.zero_le _) ?_
 rintro i h2;have hkl:=ZeJ (l:=l.take i) (key:=key);simp only [List.length_take] at hkl;simp -implicitDefEqProofs only [go_sem,ZaG];refine Zfi (fun h5=>?_) (fun h5=>?_)
 ·obtain ⟨p,hp⟩:=Z3 h5;simp -implicitDefEqProofs only [go_sem,ZaG,Zar hp];repeat ((first|refine rq ?_|fail);simp -implicitDefEqProofs only [go_sem,ZaG,Zar hp])
  refine way (fun h6=>?_) (fun h6=>?_)
  ·simp -implicitDefEqProofs only [go_sem,ZaG,Zar hp];repeat ((first|refine rq ?_|fail);simp -implicitDefEqProofs only [go_sem,ZaG,Zar hp,Zgz])
   rw [ZV (by simp only [LEN];omega)];refine ZP (i+1) ?_ (by omega) (by omega);rw [ZgG hp,if_pos h6];simp
  ·simp -implicitDefEqProofs only [go_sem];rw [ZV (by simp only [LEN];omega)];refine ZP (i+1) ?_ (by omega) (by omega);rw [ZgG hp,if_neg (by simp [h6])];simp
 ·have hi:i=l.length:=by omega
  subst hi;have hk2:=ZeJ (l:=l) (key:=key);simp -implicitDefEqProofs only [go_sem,ZaG,List.take_length];repeat ((first|refine rq ?_|fail);simp -implicitDefEqProofs only [go_sem,ZaG,List.take_length,Zgz])
  refine ZY (α:=Nat) (fun i=>⟨[(0,.d (.sl (Zaj l))),(1,.d (.str key)),(7,.own 0 0 (Zdh l key val i).length),(9,.d (.int .i64 i))],[(0,some (.arr 2 (Zaj (Zdh l key val i))))]⟩)
   (fun i=>i≤l.length) (fun i=>l.length - i) 0 (by simp [Zdh,Zd5]) (Nat.zero_le _) ?_
  rintro i h7;have hkl:=Znj (key:=key) (val:=val) (i:=i) hl;simp -implicitDefEqProofs only [go_sem,ZaG];refine Zfi (fun h8=>?_) (fun h8=>?_)
  ·obtain ⟨p,hp⟩:=Z3 h8;simp -implicitDefEqProofs only [go_sem,ZaG,Zar hp];repeat ((first|refine rq ?_|fail);simp -implicitDefEqProofs only [go_sem,ZaG,Zar hp])
   refine way (fun h6=>?_) (fun h6=>?_)
   ·simp -implicitDefEqProofs only [go_sem,ZaG,Zar hp];repeat ((first|refine rq ?_|fail);simp -implicitDefEqProofs only [go_sem,ZaG,Zar hp,Zgz])
    rw [ZV (by simp only [LEN];omega)];refine ZP (i+1) ?_ (by omega) (by omega);have:Zdh l key val (i+1)=Zdh l key val i++[p]:=by simp [Zdh,Zel hp,h6]
    rw [this];simp
   ·simp -implicitDefEqProofs only [go_sem];rw [ZV (by simp only [LEN];omega)];refine ZP (i+1) ?_ (by omega) (by omega);have:Zdh l key val (i+1)=Zdh l key val i:=by simp [Zdh,Zel hp,h6]
    rw [this]
  ·have hi:i=l.length:=by omega
   subst hi;simp -implicitDefEqProofs only [go_sem];have:Zdh l key val l.length=mput l key val:=by rw [Zo2];simp [Zdh]
   rw [this]
theorem ZiC (l:List ZR) (key val:List UInt8) (hl:l.length≤1048576):ZQ Go.Proofs.Tryz.prog 52 [.d (.sl (Zaj l)),.d (.str key),.d (.str val)] [] [.dead,.dead,.dead] (.d (.sl (Zaj (mput l key val)))) []:=
 Zsl (ZpN l key val hl) (by simp [Zaj]) rfl
@[go_sem] def hr95:ZW:=hh [[0],[0],[0,3],[0,3,4],[0,3,4],[0,3,4],[0,3]]
@[go_sem] def hl95:ZW:=hh [[],[],[],[0,3,4]]
attribute [go_sem] Go.Proofs.Tryz.results95
@[go_sem] def hr31:ZW:=hh [[0],[0]]
@[go_sem] def hl31:ZW:=hh []
attribute [go_sem] Go.Proofs.Tryz.results31
@[go_sem] def hr14:ZW:=hh [[0],[0]]
@[go_sem] def hl14:ZW:=hh []
attribute [go_sem] Go.Proofs.Tryz.results14
theorem cl_big (code:List UInt8):ZQ Go.Proofs.Tryz.prog 14 [.d (.sl (bys code))] [] [.dead] (.d (.bool (decide ((1048576:Int)<code.length)))) []:=by
 refine cof Go.Proofs.Tryz.func14 hr14 hl14 [false] ?_;simp -implicitDefEqProofs only [go_sem,Za4]
def kl_big (code:List UInt8):=kf (cl_big code)
@[go_sem] def hr17:ZW:=hh [[0],[0],[3],[3],[3,4],[3,4,5],[3,4,5],[3,4,5],[4]]
@[go_sem] def hl17:ZW:=hh [[],[],[],[],[],[3,4,5]]
attribute [go_sem] Go.Proofs.Tryz.results17
end Go.Rx
