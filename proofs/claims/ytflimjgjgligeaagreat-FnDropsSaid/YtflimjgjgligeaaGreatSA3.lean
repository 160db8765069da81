/-
  Part A3: lemmas on an evaluator over plain data of the model's code, plain laws on lists and numbers, or contracts of functions of the program; each lemma names its conditions.
-/
import Derived.Test.YtflimjgjgligeaaGreatSA2

set_option linter.unusedSimpArgs false
set_option linter.unusedVariables false
set_option maxRecDepth 100000
set_option maxHeartbeats 16000000
set_option linter.defProp false
namespace Go.Rx
open Go
attribute [local irreducible] Req Way WayG Sel Z2 ZQ Zaz cVC Zai ZaO
@[go_sem] def hr233:ZW:=hh [[0],[0]]
@[go_sem] def hl233:ZW:=hh []
attribute [go_sem] Go.Proofs.Tryz.results233
theorem Zxw (s:List UInt8) (hs:s.length≤4611686018427387904):ZQ Go.Proofs.Tryz.prog 233 [.d (.str s)] [] [.dead] (.d (.str (Zcj s))) []:=by
 refine cof Go.Proofs.Tryz.func233 hr233 hl233 [false] ?_;simp -implicitDefEqProofs only [go_sem];refine Zbt s.length (by omega) rfl ?_;have:=ZdR (n:=s.length) (by omega);simp -implicitDefEqProofs only [go_sem];repeat ((first|refine rq ?_|fail);simp -implicitDefEqProofs only [go_sem])
 rfl
def Zmh (s:List UInt8) (hs:s.length≤4611686018427387904):=kf (Zxw s hs)
@[go_sem] def hr177:ZW:=hh [[0],[0]]
@[go_sem] def hl177:ZW:=hh []
attribute [go_sem] Go.Proofs.Tryz.results177
@[go_sem] def hr180:ZW:=hh [[0],[0],[],[0]]
@[go_sem] def hl180:ZW:=hh []
attribute [go_sem] Go.Proofs.Tryz.results180
theorem ZvB (t:List UInt8) (ht:t.length≤20000):ZQ Go.Proofs.Tryz.prog 180 [.d (.str t)] [] [.dead] (.tup [.d (.str (Zgw t)),.d (.bool true)]) []:=by
 refine cof Go.Proofs.Tryz.func180 hr180 hl180 [false] ?_;have h1:¬(20000:Int)<t.length:=by omega
 have d1:=decide_eq_false h1;simp -implicitDefEqProofs only [go_sem,d1];repeat ((first|refine rq ?_|refine ZqX t (by simp only [LEN];omega) rfl ?_|refine ZuR (ZlZ t) Zqw rfl ?_|fail);simp -implicitDefEqProofs only [go_sem,d1,Zra])
 rfl
def Znt (t:List UInt8) (ht:t.length≤20000):=kf (ZvB t ht)
@[go_sem] def hr178:ZW:=hh [[0],[0],[],[0]]
@[go_sem] def hl178:ZW:=hh []
attribute [go_sem] Go.Proofs.Tryz.results178
@[go_sem] def hr113:ZW:=hh [[0],[0],[0,4],[],[0,4]]
@[go_sem] def hl113:ZW:=hh []
attribute [go_sem] Go.Proofs.Tryz.results113
theorem ZpF (t:List UInt8) (ht:t.length≤4611686018427387904):ZQ Go.Proofs.Tryz.prog 113 [.d (.str t)] [] [.dead] (unV (ZbE t)) []:=by
 refine cof Go.Proofs.Tryz.func113 hr113 hl113 [false] ?_;simp -implicitDefEqProofs only [go_sem];have e1:IntKind.i64.wrap ((t.length:Int) - 4)=(t.length:Int) - 4:=Zad (by omega) (by omega);rw [e1];by_cases h1:(t.length:Int) - 4<0
 ·have d1:=decide_eq_true h1;simp -implicitDefEqProofs only [go_sem,d1];repeat ((first|refine rq ?_|fail);simp -implicitDefEqProofs only [go_sem,d1])
  rw [ZbE,if_neg (by omega)];rfl
 ·have d1:=decide_eq_false h1;by_cases h2:20000<(t.length:Int) - 4
  ·have d2:=decide_eq_true h2;simp -implicitDefEqProofs only [go_sem,d1,d2];repeat ((first|refine rq ?_|fail);simp -implicitDefEqProofs only [go_sem,d1,d2])
   rw [ZbE,if_neg (by omega)];rfl
  ·have d2:=decide_eq_false h2;have e2:((t.length:Int) - 4).toNat=t.length - 4:=by omega
   simp -implicitDefEqProofs only [go_sem,d1,d2,e2];repeat ((first|refine rq ?_|refine ZqX (t.take (t.length - 4)) (by simp only [List.length_take,LEN];omega) rfl ?_|refine ZuR (ZlZ (t.take (t.length - 4))) Zqw rfl ?_|fail);simp -implicitDefEqProofs only [go_sem,d1,d2,e2,List.take_length])
   refine fork (fun h3=>?_) (fun h3=>?_)
   ·simp -implicitDefEqProofs only [go_sem];rw [ZbE,if_neg (fun h=>h3 h.2.2)];rfl
   ·simp -implicitDefEqProofs only [go_sem];repeat ((first|refine rq ?_|fail);simp -implicitDefEqProofs only [go_sem,e2])
    rw [ZbE,if_pos ⟨by omega,by omega,h3⟩];rfl
theorem ZjQ {h:Heap} {tb:Nat} {K:OK} {args:List V} {ls:List Nat} (t:List UInt8) (ht:t.length≤4611686018427387904) (hg:toDs h args=some ([.str t],ls)) (hfl:ZcQ (unV (ZbE t))∧ZhJ ([]))
  (hk:K (renV (bk tb ([])) (unV (ZbE t))) (updN tb ([]) ([]))):Z2 Go.Proofs.Tryz.prog h tb 113 args K:=
 ZcM hg (ZpF t ht) rfl (.inr hfl) hk
def entB (n:Z1) (k:Nat):List UInt8:=(if n.Zn=true then (n.Zj.zip n.ZJ).take k|>.flatMap lent else (n.Zj.zip n.Zk).take k|>.flatMap bent)
def ZjY (n:Z1):List UInt8:=(if n.Zn=true then 108 else 98)::varB n.Zj.length
theorem Zn1 {n:Z1}:ZjY n++entB n 0=ZjY n:=by unfold entB;split<;>simp
theorem Zi7 {n:Z1} (hn:ZaA n) {k:Nat} (hk:n.Zj.length≤k):ZjY n++entB n k=Za1 n:=by
 unfold entB Za1 ZjY;split
 ·rw [List.take_of_length_le (by simp;omega)];rfl
 ·rw [List.take_of_length_le (by simp;omega)];rfl
theorem Zn2 {n:Z1} (hl:n.Zn=true) {i:Nat} {p q:List UInt8} (hp:n.Zj[i]? =some p) (hq:n.ZJ[i]? =some q):entB n (i+1)=entB n i++(Zcj p++Zcj q):=by
 unfold entB;rw [if_pos hl,if_pos hl,Z7 (Zfg hp hq)];simp [lent]
theorem Zj9 {n:Z1} (hl:n.Zn=false) {i:Nat} {p:List UInt8} {q:Int} (hp:n.Zj[i]? =some p) (hq:n.Zk[i]? =some q):entB n (i+1)=entB n i++(Zcj p++varB q.toNat):=by
 unfold entB;rw [if_neg (by simp [hl]),if_neg (by simp [hl]),Z7 (Zfg hp hq)];simp [bent]
theorem Ziy {α:Type} {l:List α} {f:α→List UInt8} {i m:Nat} (h:i≤m):((l.take i).flatMap f).length≤((l.take m).flatMap f).length:=by
 have e:l.take m=l.take i++(l.take m).drop i:=by
  conv=>lhs;rw [←List.take_append_drop i (l.take m)]
  rw [List.take_take,Nat.min_eq_left h]
 rw [e,List.flatMap_append,List.length_append];omega
theorem Zi6 {n:Z1} (hn:ZaA n) {i:Nat}:(ZjY n++entB n i).length≤202:=by
 have h1:=ZdB hn;have h2:=Zi7 hn (Nat.le_refl _);by_cases hi:n.Zj.length≤i
 ·rw [Zi7 hn hi];exact h1
 ·rw [←h2] at h1;refine Nat.le_trans ?_ h1;simp only [List.length_append];refine Nat.add_le_add_left ?_ _;unfold entB;split
  ·exact Ziy (by omega)
  ·exact Ziy (by omega)
@[go_sem] def hr181:ZW:=hh [[0],[1],[1,3],[1],[1,3],[1,3],[1,3,4],[1,3,4],[1,3,4],[1,3,4],[1,3,4],[1,3,4],[3]]
@[go_sem] def hl181:ZW:=hh [[],[],[],[],[],[],[1,3,4]]
attribute [go_sem] Go.Proofs.Tryz.results181
theorem Zxx (n:Z1) (hn:ZaA n):ZQ Go.Proofs.Tryz.prog 181 [.d (.agg n.cells)] [] [.dead] (.d (.str (Za1 n))) []:=by
 refine cof Go.Proofs.Tryz.func181 hr181 hl181 [false] ?_;have hk:n.Zj.length≤4:=hn.2.1;have hv1:=Zdd (n:=n.Zj.length) (by omega);have hkl:=hn.2.2.2.1;simp -implicitDefEqProofs only [go_sem,Z1.cells];cases hl:n.Zn
 ·have hiff:=(Ze4 hl).1 hn;simp -implicitDefEqProofs only [go_sem];repeat ((first|refine rq ?_|refine Zbt n.Zj.length (by omega) rfl ?_|fail);simp -implicitDefEqProofs only [go_sem])
  have hh:ZjY n=98::varB n.Zj.length:=by simp [ZjY,hl]
  refine ZY (α:=Nat) (fun i=>⟨[(1,.ref 0 0),(3,.d (.str (ZjY n++entB n i))),(4,.d (.int .i64 i))],[(0,some (.box [.d (.bool false),.d (.sl (strs n.Zj)),.d (.sl (strs n.ZJ)),.d (.sl (ints n.Zk))]))]⟩)
   (fun i=>i≤n.Zj.length) (fun i=>n.Zj.length - i) 0 (by rw [Zn1,hh];rfl) (Nat.zero_le _) ?_
  rintro i i1;have hb:=Zi6 hn (i:=i);simp only [List.length_append] at hb;simp -implicitDefEqProofs only [go_sem];refine fork (fun h5=>?_) (fun h5=>?_)
  ·obtain ⟨p,hp⟩:=Z3 h5;obtain ⟨q,hq⟩:=Z3 (l:=n.Zk) (i:=i) (by omega);have hpl:=hkl p (List.mem_of_getElem? hp);have hql:=hiff.2.2.2.2.2.1 q (List.mem_of_getElem? hq);have hs:=ZeC hpl;have hb2:=Zi6 hn (i:=i+1);rw [Zj9 hl hp hq,←List.append_assoc,←List.append_assoc,List.length_append,List.length_append,List.length_append] at hb2;obtain ⟨q,rfl⟩:=Int.eq_ofNat_of_zero_le (show 0≤q by omega);rw [Int.toNat_natCast] at hb2;simp -implicitDefEqProofs only [go_sem,ZM hp,ZO hq];repeat ((first|refine rq ?_|refine Zmh p (by omega) rfl ?_|refine Zbt q (by omega) rfl ?_|fail);simp -implicitDefEqProofs only [go_sem,ZM hp,ZO hq])
   rw [ZV (by simp only [LEN];omega)];refine ZP (i+1) ?_ (by omega) (by omega);rw [Zj9 hl hp hq];simp
  ·simp -implicitDefEqProofs only [go_sem];rw [Zi7 hn (by omega)]
 ·have hiff:=(ZgD hl).1 hn;simp -implicitDefEqProofs only [go_sem];repeat ((first|refine rq ?_|refine Zbt n.Zj.length (by omega) rfl ?_|fail);simp -implicitDefEqProofs only [go_sem])
  have hh:ZjY n=108::varB n.Zj.length:=by simp [ZjY,hl]
  refine ZY (α:=Nat) (fun i=>⟨[(1,.ref 0 0),(3,.d (.str (ZjY n++entB n i))),(4,.d (.int .i64 i))],[(0,some (.box [.d (.bool true),.d (.sl (strs n.Zj)),.d (.sl (strs n.ZJ)),.d (.sl (ints n.Zk))]))]⟩)
   (fun i=>i≤n.Zj.length) (fun i=>n.Zj.length - i) 0 (by rw [Zn1,hh];rfl) (Nat.zero_le _) ?_
  rintro i i1;have hb:=Zi6 hn (i:=i);simp only [List.length_append] at hb;simp -implicitDefEqProofs only [go_sem];refine fork (fun h5=>?_) (fun h5=>?_)
  ·obtain ⟨p,hp⟩:=Z3 h5;obtain ⟨q,hq⟩:=Z3 (l:=n.ZJ) (i:=i) (by omega);have hpl:=hkl p (List.mem_of_getElem? hp);have hql:=hiff.2.2.2.2.1 q (List.mem_of_getElem? hq);have hs:=ZeC hpl;have hb2:=Zi6 hn (i:=i+1);rw [Zn2 hl hp hq,←List.append_assoc,←List.append_assoc,List.length_append,List.length_append,List.length_append] at hb2;simp -implicitDefEqProofs only [go_sem,ZM hp,ZM hq];repeat ((first|refine rq ?_|refine Zmh p (by omega) rfl ?_|refine Zmh q (by omega) rfl ?_|fail);simp -implicitDefEqProofs only [go_sem,ZM hp,ZM hq])
   rw [ZV (by simp only [LEN];omega)];refine ZP (i+1) ?_ (by omega) (by omega);rw [Zn2 hl hp hq];simp
  ·simp -implicitDefEqProofs only [go_sem];rw [Zi7 hn (by omega)]
def Zw0 (n:Z1) (hn:ZaA n):=kf (Zxx n hn)
def Zkz (n:Z1):V:= .tup [.d (.str (if ZaA n then Zcf n else [])),.d (.bool (decide (ZaA n)))]
@[go_sem] def hr110:ZW:=hh [[0],[1],[],[1]]
@[go_sem] def hl110:ZW:=hh []
attribute [go_sem] Go.Proofs.Tryz.results110
theorem ZpL (n:Z1) (h1:n.Zj.length≤LEN) (h2:n.ZJ.length≤LEN) (h3:n.Zk.length≤LEN):ZQ Go.Proofs.Tryz.prog 110 [.d (.agg n.cells)] [] [.dead] (Zkz n) []:=by
 refine cof Go.Proofs.Tryz.func110 hr110 hl110 [false] ?_;simp -implicitDefEqProofs only [go_sem,Z1.cells];refine ZuQ n h1 h2 h3 rfl ?_;simp -implicitDefEqProofs only [go_sem];refine fork (fun h5=>?_) (fun h5=>?_)
 ·simp -implicitDefEqProofs only [go_sem];rw [Zkz,if_neg h5,decide_eq_false h5]
 ·have hb:=ZdB h5;simp -implicitDefEqProofs only [go_sem];refine Zw0 n h5 rfl ?_;simp -implicitDefEqProofs only [go_sem];refine Znt (Za1 n) (by omega) rfl ?_;simp -implicitDefEqProofs only [go_sem];rw [Zkz,if_pos h5,decide_eq_true h5];rfl
def Zcs (n:Z1) (h1:n.Zj.length≤LEN) (h2:n.ZJ.length≤LEN) (h3:n.Zk.length≤LEN):=kf (ZpL n h1 h2 h3)
@[go_sem] def hr114:ZW:=hh [[0],[0],[0,3,4,5],[0],[0],[0,3,4],[0,3]]
@[go_sem] def hl114:ZW:=hh []
attribute [go_sem] Go.Proofs.Tryz.results114
theorem cs_num (t:List UInt8) (r:Nat×Bool) (ht:t.length≤4611686018427387904):ZQ Go.Proofs.Tryz.prog 114 [.ref 0 0] [(0,.box [.d (.str t),.d (.int .i64 r.1),.d (.bool r.2)])] [.ref 0 0] (.d (.int .i64 (rdV t 1000000000 r).1)) [(0,.box [.d (.str t),.d (.int .i64 (rdV t 1000000000 r).2.1),.d (.bool (rdV t 1000000000 r).2.2)])]:=by
 refine cof Go.Proofs.Tryz.func114 hr114 hl114 [true] ?_;simp -implicitDefEqProofs only [go_sem];refine Zlk t r.1 ht rfl ⟨Zrc,Zd6⟩ ?_;rw [rdV];obtain ⟨a,b⟩:=r;cases hv:ZbF t (a:Int) with
 |none=>
  simp only [rvV];simp -implicitDefEqProofs only [go_sem];repeat ((first|refine rq ?_|fail);simp -implicitDefEqProofs only [go_sem])
  cases b
  ·simp -implicitDefEqProofs only [go_sem];rfl
  ·simp -implicitDefEqProofs only [go_sem];rfl
 |some p=>
  obtain ⟨n,c⟩:=p;have hb:=(ZfR hv).1;simp only [rvV];simp -implicitDefEqProofs only [go_sem];repeat ((first|refine rq ?_|fail);simp -implicitDefEqProofs only [go_sem])
  cases b
  ·simp -implicitDefEqProofs only [go_sem];rw [if_neg (fun h=>h.elim (fun h=>by cases h) (by omega))]
  ·simp -implicitDefEqProofs only [go_sem];simp
theorem Zeh {h:Heap} {tb:Nat} {K:OK} {n0:Nat} {rest:List V} {ls:List Nat} (t:List UInt8) (r:Nat×Bool) (ht:t.length≤4611686018427387904) (hn:h n0=some (.box [.d (.str t),.d (.int .i64 r.1),.d (.bool r.2)])) (hro:refO h n0=[n0]) (hr:toDs h rest=some ([],ls)) (hnl:(ls:List Nat).contains n0=false)
  (hk:K (renV (bx n0 tb [(0,.box [.d (.str t),.d (.int .i64 (rdV t 1000000000 r).2.1),.d (.bool (rdV t 1000000000 r).2.2)])]) (.d (.int .i64 (rdV t 1000000000 r).1))) ((bif false then (ls:List Nat).map (·,none) else [])++(n0,none)::updX n0 tb [(0,.box [.d (.str t),.d (.int .i64 (rdV t 1000000000 r).2.1),.d (.bool (rdV t 1000000000 r).2.2)])] [(0,.box [.d (.str t),.d (.int .i64 (rdV t 1000000000 r).2.1),.d (.bool (rdV t 1000000000 r).2.2)])])):Z2 Go.Proofs.Tryz.prog h tb 114 (.ref n0 0::rest) K:=
 Zbz false hn hro rfl hr hnl (cs_num t r ht) rfl rfl (.inr (.inr ⟨Ze9 rfl,Zj3 rfl⟩)) hk
@[go_sem] def hr115:ZW:=hh [[0],[0],[0,3,4,5],[0],[0],[0,3,4],[0,3]]
@[go_sem] def hl115:ZW:=hh []
attribute [go_sem] Go.Proofs.Tryz.results115
theorem Zzp (t:List UInt8) (r:Nat×Bool) (ht:t.length≤4611686018427387904):ZQ Go.Proofs.Tryz.prog 115 [.ref 0 0] [(0,.box [.d (.str t),.d (.int .i64 r.1),.d (.bool r.2)])] [.ref 0 0] (.d (.str (rdT t r).1)) [(0,.box [.d (.str t),.d (.int .i64 (rdT t r).2.1),.d (.bool (rdT t r).2.2)])]:=by
 refine cof Go.Proofs.Tryz.func115 hr115 hl115 [true] ?_;simp -implicitDefEqProofs only [go_sem];refine Znv t r.1 ht rfl ⟨Zxi,Zd6⟩ ?_;rw [rdT];obtain ⟨a,b⟩:=r;cases hv:ZbQ t (a:Int) with
 |none=>
  simp only [rsV];simp -implicitDefEqProofs only [go_sem];repeat ((first|refine rq ?_|fail);simp -implicitDefEqProofs only [go_sem])
  cases b
  ·simp -implicitDefEqProofs only [go_sem]
  ·simp -implicitDefEqProofs only [go_sem]
 |some p=>
  obtain ⟨n,c⟩:=p;simp only [rsV];simp -implicitDefEqProofs only [go_sem];repeat ((first|refine rq ?_|fail);simp -implicitDefEqProofs only [go_sem])
  cases b
  ·simp -implicitDefEqProofs only [go_sem];simp
  ·simp -implicitDefEqProofs only [go_sem];simp
theorem Zo5 {h:Heap} {tb:Nat} {K:OK} {n0:Nat} {rest:List V} {ls:List Nat} (t:List UInt8) (r:Nat×Bool) (ht:t.length≤4611686018427387904) (hn:h n0=some (.box [.d (.str t),.d (.int .i64 r.1),.d (.bool r.2)])) (hro:refO h n0=[n0]) (hr:toDs h rest=some ([],ls)) (hnl:(ls:List Nat).contains n0=false)
  (hk:K (renV (bx n0 tb [(0,.box [.d (.str t),.d (.int .i64 (rdT t r).2.1),.d (.bool (rdT t r).2.2)])]) (.d (.str (rdT t r).1))) ((bif false then (ls:List Nat).map (·,none) else [])++(n0,none)::updX n0 tb [(0,.box [.d (.str t),.d (.int .i64 (rdT t r).2.1),.d (.bool (rdT t r).2.2)])] [(0,.box [.d (.str t),.d (.int .i64 (rdT t r).2.1),.d (.bool (rdT t r).2.2)])])):Z2 Go.Proofs.Tryz.prog h tb 115 (.ref n0 0::rest) K:=
 Zbz false hn hro rfl hr hnl (Zzp t r ht) rfl rfl (.inr (.inr ⟨Ze9 rfl,Zj3 rfl⟩)) hk
@[go_sem] def hr42:ZW:=hh [[0],[0,2],[0,2,4,5],[2],[0,2,4],[0,2,4,6],[0,2,6,7],[0,2,6,7,8],[0,2,6,7,8,9],[0,2,6,7,8,9],[0,2,6,7,8,9],[0,2,6,7,8,9],[0,2,6,7,8,9],[0,2,6,7,8,9],[0,2,6,7],[0,2,6,7,10,11],[2],[2,7]]
@[go_sem] def hl42:ZW:=hh [[],[],[],[],[],[],[],[],[0,2,6,7,8,9]]
attribute [go_sem] Go.Proofs.Tryz.results42
theorem ZpI (t : List UInt8) (ht : t.length ≤ 4611686018427387904) : ZQ Go.Proofs.Tryz.prog 42 [.d (.str t)] [] [.dead] (ZyZ (ZaH t)) [] := by
  refine cofF Go.Proofs.Tryz.func42 hr42 hl42 ?_;simp -implicitDefEqProofs only [go_sem];refine ZjQ t ht rfl ⟨Zrb, Zd6⟩ ?_;cases hu : ZbE t with
  | none =>
    rw [Zl6 hu];simp only [unV];simp -implicitDefEqProofs only [go_sem];rfl
  | some s =>
    have hs : s.length ≤ 20000 := (ZcW.1 hu).1;simp only [unV];by_cases hs2 : (s.length : Int) < 2
    · have d2 := decide_eq_true hs2
      rw [ZkD hu (by omega)];simp -implicitDefEqProofs only [go_sem, d2];rfl
    · have d2 := decide_eq_false hs2
      match s, hu, hs, hs2, d2 with
      | [], _, _, h, _ => simp at h
      | c :: b, hu, hs, hs2, d2' =>
        have d2 : decide (((b.length + 1 : Nat) : Int) < 2) = false := d2';have hg : (c :: b).getD 0 0 = c := rfl;have hr0 : (decide (((c.toNat : Nat) : Int) = 108)) = decide (c = 108) := decide_eq_decide.2 ⟨fun h => u8_eq.1 ((show c.toNat = 108 by omega).trans rfl), fun h => by subst h; rfl⟩;rw [ZwZ hu];have hst : (1 : Nat) ≤ (c :: b).length := by simp
        have hle1 := Zm6 (t := c :: b) (m := 1000000000) (r := (1, false)) hst;by_cases hc : c = 108
        · have dc := decide_eq_true hc
          rw [Zr1 hc];simp -implicitDefEqProofs only [go_sem, d2, hg, hr0, dc];repeat ((first | refine rq ?_ | refine Zeh (c :: b) (1, false) (by omega) rfl rfl rfl rfl ?_ | fail); simp -implicitDefEqProofs only [go_sem, d2, hg, hr0, dc])
          generalize hkr : rdV (c :: b) 1000000000 (1, false) = kr at hle1 ⊢;obtain ⟨k, r1⟩ := kr;simp only at hle1 ⊢;refine ZY (α := Nat × List (List UInt8 × List UInt8) × (Nat × Bool)) (fun x => ⟨[(0, .d (.str t)), (2, .ref 0 0), (6, .ref 4 0), (7, .ref 5 0), (8, .d (.int .i64 k)), (9, .d (.int .i64 x.1))],
              [(0, some (.box [.d (.bool false), .own 1 0 0, .own 2 0 0, .own 3 0 0])), (1, some (.arr 1 [])), (2, some (.arr 1 [])), (3, some (.arr 1 [])),
               (4, some (.box [.d (.str (c :: b)), .d (.int .i64 x.2.2.1), .d (.bool x.2.2.2)])),
               (5, some (.box [.d (.bool true), .own 6 0 (x.2.1.map (·.1)).length, .own 7 0 (x.2.1.map (·.2)).length, .own 8 0 0])), (6, some (.arr 1 (strs (x.2.1.map (·.1))))), (7, some (.arr 1 (strs (x.2.1.map (·.2))))), (8, some (.arr 1 []))]⟩)
            (fun x => x.1 ≤ min k 10 ∧ x.2 = rdLs (c :: b) x.1 r1) (fun x => 10 - x.1) (0, [], r1) rfl ⟨Nat.zero_le _, rfl⟩ ?_
          rintro ⟨i, es, r⟩ ⟨i1, i2⟩;simp only at i1 i2;have hlen : es.length = i := by have := ZqG (t := c :: b) (k := i) (r := r1); rw [← i2] at this; exact this
          have hbig : r.2 = true → (rdLs (c :: b) (min k 10) r1).2.2 = true := fun h => ZcE.1 (ZkY hle1 i1 (ZcE.2 ((congrArg (fun q => q.2.2) i2).symm.trans h)))
          by_cases g1 : (i : Int) < k
          · have d3 := decide_eq_true g1
            by_cases g2 : (i : Int) < 10
            · have d4 := decide_eq_true g2
              cases g3 : r.2
              · simp -implicitDefEqProofs only [go_sem, d3, d4, g3]
                obtain ⟨ra, rb⟩ := r;simp only at g3;subst g3;repeat ((first | refine rq ?_ | refine Zo5 (c :: b) (ra, false) (by omega) rfl rfl rfl rfl ?_ | refine Zo5 (c :: b) (rdT (c :: b) (ra, false)).2 (by omega) rfl rfl rfl rfl ?_ | fail); simp -implicitDefEqProofs only [go_sem, d3, d4])
                refine ZP (i + 1, es ++ [(rdL (c :: b) (ra, false)).1], (rdL (c :: b) (ra, false)).2) ?_ ⟨?_, ?_⟩ ?_
                · rw [ZV (by simp only [LEN]; omega)]
                  simp [rdL]
                · simp only; omega
                · simp only; rw [Zjt, ← i2]
                · simp only; omega
              · have hend : i = min k 10 ∨ r.2 = true := .inr g3
                simp -implicitDefEqProofs only [go_sem, d3, d4, g3];refine Zcs (Zb1 es) (by simp [Zb1, LEN]; omega) (by simp [Zb1, LEN]; omega) (by simp [Zb1, LEN]) (ls := [6, 7, 8]) (by simp -implicitDefEqProofs only [go_sem]; first | done | rfl) ?_;simp only [Zkz];simp -implicitDefEqProofs only [go_sem, g3];rw [if_pos (hbig g3)];rfl
            · have d4 := decide_eq_false g2
              have hend : i = min k 10 ∨ r.2 = true := .inl (by omega);simp -implicitDefEqProofs only [go_sem, d3, d4];refine Zcs (Zb1 es) (by simp [Zb1, LEN]; omega) (by simp [Zb1, LEN]; omega) (by simp [Zb1, LEN]) (ls := [6, 7, 8]) (by simp -implicitDefEqProofs only [go_sem]; first | done | rfl) ?_;simp only [Zkz];simp -implicitDefEqProofs only [go_sem];cases hb : r.2
              · have hfin := hend.resolve_right (by rw [hb]; simp)
                rw [← hfin, ← i2, if_neg (c := r.2 = true) (by simp [hb])];by_cases hn : ZaA (Zb1 es)
                · have dn := decide_eq_true hn
                  rw [if_pos hn];by_cases ht' : Zcf (Zb1 es) = t
                  · have dt := decide_eq_true ht'
                    simp -implicitDefEqProofs only [go_sem, dn, dt];try simp only
                    rw [if_pos ⟨hn, ht'⟩]; rfl
                  · have dt := decide_eq_false ht'
                    simp -implicitDefEqProofs only [go_sem, dn, dt];try simp only
                    rw [if_neg (fun h => ht' h.2)]; rfl
                · have dn := decide_eq_false hn
                  simp -implicitDefEqProofs only [go_sem, dn];try simp only
                  rw [if_neg (fun h => hn h.1)]; rfl
              · rw [if_pos (hbig hb)]
                simp -implicitDefEqProofs only [go_sem];rfl
          · have d3 := decide_eq_false g1
            have hend : i = min k 10 ∨ r.2 = true := .inl (by omega);simp -implicitDefEqProofs only [go_sem, d3];refine Zcs (Zb1 es) (by simp [Zb1, LEN]; omega) (by simp [Zb1, LEN]; omega) (by simp [Zb1, LEN]) (ls := [6, 7, 8]) (by simp -implicitDefEqProofs only [go_sem]; first | done | rfl) ?_;simp only [Zkz];simp -implicitDefEqProofs only [go_sem];cases hb : r.2
            · have hfin := hend.resolve_right (by rw [hb]; simp)
              rw [← hfin, ← i2, if_neg (c := r.2 = true) (by simp [hb])];by_cases hn : ZaA (Zb1 es)
              · have dn := decide_eq_true hn
                rw [if_pos hn];by_cases ht' : Zcf (Zb1 es) = t
                · have dt := decide_eq_true ht'
                  simp -implicitDefEqProofs only [go_sem, dn, dt];try simp only
                  rw [if_pos ⟨hn, ht'⟩]; rfl
                · have dt := decide_eq_false ht'
                  simp -implicitDefEqProofs only [go_sem, dn, dt];try simp only
                  rw [if_neg (fun h => ht' h.2)]; rfl
              · have dn := decide_eq_false hn
                simp -implicitDefEqProofs only [go_sem, dn];try simp only
                rw [if_neg (fun h => hn h.1)]; rfl
            · rw [if_pos (hbig hb)]
              simp -implicitDefEqProofs only [go_sem];rfl
        · have dc := decide_eq_false hc
          rw [Znm hc];simp -implicitDefEqProofs only [go_sem, d2, hg, hr0, dc];repeat ((first | refine rq ?_ | refine Zeh (c :: b) (1, false) (by omega) rfl rfl rfl rfl ?_ | fail); simp -implicitDefEqProofs only [go_sem, d2, hg, hr0, dc])
          generalize hkr : rdV (c :: b) 1000000000 (1, false) = kr at hle1 ⊢;obtain ⟨k, r1⟩ := kr;simp only at hle1 ⊢;refine ZY (α := Nat × List (List UInt8 × Int) × (Nat × Bool)) (fun x => ⟨[(0, .d (.str t)), (2, .ref 0 0), (6, .ref 4 0), (7, .ref 5 0), (8, .d (.int .i64 k)), (9, .d (.int .i64 x.1))],
              [(0, some (.box [.d (.bool false), .own 1 0 0, .own 2 0 0, .own 3 0 0])), (1, some (.arr 1 [])), (2, some (.arr 1 [])), (3, some (.arr 1 [])),
               (4, some (.box [.d (.str (c :: b)), .d (.int .i64 x.2.2.1), .d (.bool x.2.2.2)])),
               (5, some (.box [.d (.bool false), .own 6 0 (x.2.1.map (·.1)).length, .own 7 0 0, .own 8 0 (x.2.1.map (·.2)).length])), (6, some (.arr 1 (strs (x.2.1.map (·.1))))), (7, some (.arr 1 [])), (8, some (.arr 1 (ints (x.2.1.map (·.2)))))]⟩)
            (fun x => x.1 ≤ min k 10 ∧ x.2 = rdBs (c :: b) 1000000000 x.1 r1) (fun x => 10 - x.1) (0, [], r1) rfl ⟨Nat.zero_le _, rfl⟩ ?_
          rintro ⟨i, es, r⟩ ⟨i1, i2⟩;simp only at i1 i2;have hlen : es.length = i := by have := ZqH (t := c :: b) (most := 1000000000) (k := i) (r := r1); rw [← i2] at this; exact this
          have hbig : r.2 = true → (rdBs (c :: b) 1000000000 (min k 10) r1).2.2 = true := fun h => ZcE.1 (ZkZ (most := 1000000000) hle1 i1 (ZcE.2 ((congrArg (fun q => q.2.2) i2).symm.trans h)))
          by_cases g1 : (i : Int) < k
          · have d3 := decide_eq_true g1
            by_cases g2 : (i : Int) < 10
            · have d4 := decide_eq_true g2
              cases g3 : r.2
              · simp -implicitDefEqProofs only [go_sem, d3, d4, g3]
                obtain ⟨ra, rb⟩ := r;simp only at g3;subst g3;repeat ((first | refine rq ?_ | refine Zo5 (c :: b) (ra, false) (by omega) rfl rfl rfl rfl ?_ | refine Zeh (c :: b) (rdT (c :: b) (ra, false)).2 (by omega) rfl rfl rfl rfl ?_ | fail); simp -implicitDefEqProofs only [go_sem, d3, d4])
                refine ZP (i + 1, es ++ [(rdB (c :: b) 1000000000 (ra, false)).1], (rdB (c :: b) 1000000000 (ra, false)).2) ?_ ⟨?_, ?_⟩ ?_
                · rw [ZV (by simp only [LEN]; omega)]
                  simp [rdB]
                · simp only; omega
                · simp only; rw [Zju, ← i2]
                · simp only; omega
              · have hend : i = min k 10 ∨ r.2 = true := .inr g3
                simp -implicitDefEqProofs only [go_sem, d3, d4, g3];refine Zcs (Z0 es) (by simp [Z0, LEN]; omega) (by simp [Z0, LEN]) (by simp [Z0, LEN]; omega) (ls := [6, 7, 8]) (by simp -implicitDefEqProofs only [go_sem]; first | done | rfl) ?_;simp only [Zkz];simp -implicitDefEqProofs only [go_sem, g3];rw [if_pos (hbig g3)];rfl
            · have d4 := decide_eq_false g2
              have hend : i = min k 10 ∨ r.2 = true := .inl (by omega);simp -implicitDefEqProofs only [go_sem, d3, d4];refine Zcs (Z0 es) (by simp [Z0, LEN]; omega) (by simp [Z0, LEN]) (by simp [Z0, LEN]; omega) (ls := [6, 7, 8]) (by simp -implicitDefEqProofs only [go_sem]; first | done | rfl) ?_;simp only [Zkz];simp -implicitDefEqProofs only [go_sem];cases hb : r.2
              · have hfin := hend.resolve_right (by rw [hb]; simp)
                rw [← hfin, ← i2, if_neg (c := r.2 = true) (by simp [hb])];by_cases hn : ZaA (Z0 es)
                · have dn := decide_eq_true hn
                  rw [if_pos hn];by_cases ht' : Zcf (Z0 es) = t
                  · have dt := decide_eq_true ht'
                    simp -implicitDefEqProofs only [go_sem, dn, dt];try simp only
                    rw [if_pos ⟨hn, ht'⟩]; rfl
                  · have dt := decide_eq_false ht'
                    simp -implicitDefEqProofs only [go_sem, dn, dt];try simp only
                    rw [if_neg (fun h => ht' h.2)]; rfl
                · have dn := decide_eq_false hn
                  simp -implicitDefEqProofs only [go_sem, dn];try simp only
                  rw [if_neg (fun h => hn h.1)]; rfl
              · rw [if_pos (hbig hb)]
                simp -implicitDefEqProofs only [go_sem];rfl
          · have d3 := decide_eq_false g1
            have hend : i = min k 10 ∨ r.2 = true := .inl (by omega);simp -implicitDefEqProofs only [go_sem, d3];refine Zcs (Z0 es) (by simp [Z0, LEN]; omega) (by simp [Z0, LEN]) (by simp [Z0, LEN]; omega) (ls := [6, 7, 8]) (by simp -implicitDefEqProofs only [go_sem]; first | done | rfl) ?_;simp only [Zkz];simp -implicitDefEqProofs only [go_sem];cases hb : r.2
            · have hfin := hend.resolve_right (by rw [hb]; simp)
              rw [← hfin, ← i2, if_neg (c := r.2 = true) (by simp [hb])];by_cases hn : ZaA (Z0 es)
              · have dn := decide_eq_true hn
                rw [if_pos hn];by_cases ht' : Zcf (Z0 es) = t
                · have dt := decide_eq_true ht'
                  simp -implicitDefEqProofs only [go_sem, dn, dt];try simp only
                  rw [if_pos ⟨hn, ht'⟩]; rfl
                · have dt := decide_eq_false ht'
                  simp -implicitDefEqProofs only [go_sem, dn, dt];try simp only
                  rw [if_neg (fun h => ht' h.2)]; rfl
              · have dn := decide_eq_false hn
                simp -implicitDefEqProofs only [go_sem, dn];try simp only
                rw [if_neg (fun h => hn h.1)]; rfl
            · rw [if_pos (hbig hb)]
              simp -implicitDefEqProofs only [go_sem];rfl
def Zas (t:List UInt8) (ht:t.length≤4611686018427387904):=kf (ZpI t ht)
theorem ZuM {l:List GPut} {i:Nat} {q:GPut} {p:Int} (h:l[i]? =some q):Zbi (l.take (i+1)) p=if q.Zu=p then some q.ZC else Zbi (l.take i) p:=by
 rw [Z7 h,Ze6]
@[go_sem] def hr158:ZW:=hh [[0,1],[1,2]]
@[go_sem] def hl158:ZW:=hh []
attribute [go_sem] Go.Proofs.Tryz.results158
@[go_sem] def hr74:ZW:=hh [[0,1],[1,2],[],[1,2],[1,2,5],[1,2,5],[1,2,5],[2,5],[1,2]]
@[go_sem] def hl74:ZW:=hh [[],[],[],[],[1,2,5]]
attribute [go_sem] Go.Proofs.Tryz.results74
@[go_sem] def hr43:ZW:=hh [[0,1],[1,2],[],[1,2],[1,2,5],[1,2,5],[1,2,5],[2,5],[1,2]]
@[go_sem] def hl43:ZW:=hh [[],[],[],[],[1,2,5]]
attribute [go_sem] Go.Proofs.Tryz.results43
theorem ZpH (d:ZT) (p:Int) (h1:d.Zv.length≤4611686018427387904) (h2:d.Zm.length≤4611686018427387904):ZQ Go.Proofs.Tryz.prog 43 [.d (.agg d.cells),.d (.int .i64 p)] [] [.dead,.dead] (.d (.str (ZU d p))) []:=by
 refine cof Go.Proofs.Tryz.func43 hr43 hl43 [false,false] ?_;have e1:IntKind.i64.wrap ((d.Zm.length:Int) - 1)=(d.Zm.length:Int) - 1:=Zad (by omega) (by omega);have e0:IntKind.i64.wrap ((d.Zv.length:Int) - 1)=(d.Zv.length:Int) - 1:=Zad (by omega) (by omega);simp -implicitDefEqProofs only [go_sem,ZT.cells,e0];refine Zbx p 0 ((d.Zv.length:Int) - 1) rfl ?_;by_cases hp:Za9 d p
 ·have dp:decide (0≤p∧p≤(d.Zv.length:Int) - 1)=true:=decide_eq_true hp;have hp':=hp;obtain ⟨hp1,hp2⟩:=hp';simp -implicitDefEqProofs only [go_sem,dp,e1];refine ZY (α:=Int) (fun x=>⟨[(1,.d (.int .i64 p)),(2,.ref 0 0),(5,.d (.int .i64 x))],[(0,some (.box [.d (.sl (strs d.Zv)),.d (.sl (Zae d.Zm))]))]⟩)
   (fun x=> -1≤x∧x<d.Zm.length∧Zbi (d.Zm.take (x+1).toNat) p=Zbi d.Zm p) (fun x=>(x+1).toNat) ((d.Zm.length:Int) - 1) rfl ⟨by omega,by omega,?_⟩ ?_
  ·rw [List.take_of_length_le (by omega)]
  rintro x ⟨x1,x2,x3⟩;simp -implicitDefEqProofs only [go_sem];refine fork (fun h5=>?_) (fun h5=>?_)
  ·obtain ⟨i,rfl⟩:=Int.eq_ofNat_of_zero_le h5;obtain ⟨q,hq⟩:=Z3 (l:=d.Zm) (i:=i) (by omega);have e2:((i:Int)+1).toNat=i+1:=by omega
   rw [e2,ZuM hq] at x3;have e3:IntKind.i64.wrap ((i:Int) - 1)=(i:Int) - 1:=Zad (by omega) (by omega);simp -implicitDefEqProofs only [go_sem,ZaY hq,e3];repeat ((first|refine rq ?_|fail);simp -implicitDefEqProofs only [go_sem,ZaY hq,e3])
   refine fork (fun h6=>?_) (fun h6=>?_)
   ·simp -implicitDefEqProofs only [go_sem,ZaY hq];repeat ((first|refine rq ?_|fail);simp -implicitDefEqProofs only [go_sem,ZaY hq])
    rw [if_pos h6] at x3;rw [ZU,if_pos hp,←x3];rfl
   ·simp -implicitDefEqProofs only [go_sem];rw [if_neg h6] at x3;refine ZP ((i:Int) - 1) (by rw [e3]) ⟨by omega,by omega,?_⟩ (by omega);have e4:((i:Int) - 1+1).toNat=i:=by omega
    rw [e4];exact x3
  ·obtain rfl:x= -1:=by omega
   obtain ⟨s,hs⟩:=Z3 (l:=d.Zv) (i:=p.toNat) (by omega);simp -implicitDefEqProofs only [go_sem,ZM hs];repeat ((first|refine rq ?_|fail);simp -implicitDefEqProofs only [go_sem,ZM hs])
   have e4:((-1:Int)+1).toNat=0:=rfl;rw [e4,List.take_zero,Zdi] at x3;rw [ZU,if_pos hp,←x3,Option.getD_none,getD_some hs]
 ·have dp:decide (0≤p∧p≤(d.Zv.length:Int) - 1)=false:=decide_eq_false hp;simp -implicitDefEqProofs only [go_sem,dp];rw [ZU,if_neg hp]
def Zal (d:ZT) (p:Int) (h1:d.Zv.length≤4611686018427387904) (h2:d.Zm.length≤4611686018427387904):=kf (ZpH d p h1 h2)
@[go_sem] def hr200:ZW:=hh [[0,1],[0,1],[0,1,5],[0,1,5],[0,1,5],[],[]]
@[go_sem] def hl200:ZW:=hh [[],[],[0,1,5]]
attribute [go_sem] Go.Proofs.Tryz.results200
theorem cs_In (l:List Int) (x:Int) (hl:l.length≤LEN):ZQ Go.Proofs.Tryz.prog 200 [.d (.sl (ints l)),.d (.int .i64 x)] [] [.dead,.dead] (.d (.bool (decide (x∈l)))) []:=by
 refine cof Go.Proofs.Tryz.func200 hr200 hl200 [false,false] ?_;simp -implicitDefEqProofs only [go_sem];refine ZY (α:=Nat) (fun i=>⟨[(0,.d (.sl (ints l))),(1,.d (.int .i64 x)),(5,.d (.int .i64 i))],[]⟩)
  (fun i=>i≤l.length∧x∉l.take i) (fun i=>l.length - i) 0 rfl ⟨Nat.zero_le _,by simp⟩ ?_
 rintro i ⟨h2,h3⟩;simp -implicitDefEqProofs only [go_sem];refine fork (fun h5=>?_) (fun h5=>?_)
 ·obtain ⟨p,hp⟩:=Z3 h5;simp -implicitDefEqProofs only [go_sem,ZO hp];repeat ((first|refine rq ?_|fail);simp -implicitDefEqProofs only [go_sem,ZO hp])
  refine fork (fun h6=>?_) (fun h6=>?_)
  ·simp -implicitDefEqProofs only [go_sem];have:x∈l:=h6▸List.mem_of_getElem? hp;simp [this]
  ·simp -implicitDefEqProofs only [go_sem];rw [ZV (by omega)];refine ZP (i+1) rfl ⟨by omega,fun hm=>?_⟩ (by omega);rcases ZbG hp hm with hm|rfl
   ·exact h3 hm
   ·exact h6 rfl
 ·simp -implicitDefEqProofs only [go_sem];rw [List.take_of_length_le (by omega)] at h3;simp [h3]
def Znx (l:List Int) (x:Int) (hl:l.length≤LEN):=kf (cs_In l x hl)
@[go_sem] def hr159:ZW:=hh [[0,1],[0,1],[0,1,7,8],[0,1,7,8],[0,1,5,7,8],[5],[0,1,7,8],[]]
@[go_sem] def hl159:ZW:=hh [[],[],[0,1,7,8]]
attribute [go_sem] Go.Proofs.Tryz.results159
@[go_sem] def hr263:ZW:=hh [[0,1],[0,1]]
@[go_sem] def hl263:ZW:=hh []
attribute [go_sem] Go.Proofs.Tryz.results263
@[go_sem] def hr264:ZW:=hh [[0,1],[1,2]]
@[go_sem] def hl264:ZW:=hh []
attribute [go_sem] Go.Proofs.Tryz.results264
@[go_sem] def hr265:ZW:=hh [[0,1],[1,2]]
@[go_sem] def hl265:ZW:=hh []
attribute [go_sem] Go.Proofs.Tryz.results265
@[go_sem] def hr223:ZW:=hh [[0,1],[0,3]]
@[go_sem] def hl223:ZW:=hh []
attribute [go_sem] Go.Proofs.Tryz.results223
@[go_sem] def hr224:ZW:=hh [[0,1],[0,3]]
@[go_sem] def hl224:ZW:=hh []
attribute [go_sem] Go.Proofs.Tryz.results224
@[go_sem] def hr286:ZW:=hh [[0,1],[0,1],[],[0,1],[0,1,12,13],[0,1,12,13],[0,1,5,12,13],[],[0,1,12,13],[]]
@[go_sem] def hl286:ZW:=hh [[],[],[],[],[0,1,12,13]]
attribute [go_sem] Go.Proofs.Tryz.results286
@[go_sem] def hr261:ZW:=hh [[0,1],[0,1]]
@[go_sem] def hl261:ZW:=hh []
attribute [go_sem] Go.Proofs.Tryz.results261
end Go.Rx
