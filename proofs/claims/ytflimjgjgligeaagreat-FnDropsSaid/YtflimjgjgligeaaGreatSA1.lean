/-
  Part A1: lemmas on an evaluator over plain data of the model's code, plain laws on lists and numbers, or contracts of functions of the program; each lemma names its conditions.
-/
import Derived.Test.YtflimjgjgligeaaGreatSE6
import Derived.Test.YtflimjgjgligeaaGreatSP1
import Derived.Test.YtflimjgjgligeaaGreatProg

set_option linter.unusedSimpArgs false
set_option linter.unusedVariables false
set_option maxRecDepth 100000
set_option maxHeartbeats 16000000
set_option linter.defProp false
namespace Go.Rx
open Go
attribute [local irreducible] Req Way WayG Sel Z2 ZQ Zaz cVC Zai ZaO
@[go_sem] def tysZ:Tys
 |2=>some ⟨1,8,.int .i64,[.d (.int .i64 0)]⟩
 |3=>some ⟨1,8,.int .i64,[.d (.int .i64 0)]⟩
 |4=>some ⟨1,1,.bool,[.d (.bool false)]⟩
 |5=>some ⟨1,1,.int .u8,[.d (.int .u8 0)]⟩
 |6=>some ⟨1,1,.int .u8,[.d (.int .u8 0)]⟩
 |9=>some ⟨1,16,.str,[.d (.str [])]⟩
 |10=>some ⟨1,16,.str,[.d (.str [])]⟩
 |11=>some ⟨1,16,.str,[.d (.str [])]⟩
 |12=>some ⟨1,8,.int .u64,[.d (.int .u64 0)]⟩
 |15=>some ⟨1,8,.ptr,[.d .nilp]⟩
 |16=>some ⟨1,8,.ptr,[.d .nilp]⟩
 |17=>some ⟨1,8,.ptr,[.d .nilp]⟩
 |21=>some ⟨1,4,.int .i32,[.d (.int .i32 0)]⟩
 |22=>some ⟨1,24,.slice 5,[.nils 1]⟩
 |24=>some ⟨1,24,.slice 9,[.nils 1]⟩
 |25=>some ⟨1,24,.slice 162,[.nils 2]⟩
 |26=>some ⟨2,48,.struct [(0,24),(1,25)],[.nils 1,.nils 2]⟩
 |27=>some ⟨2,48,.struct [(0,24),(1,25)],[.nils 1,.nils 2]⟩
 |28=>some ⟨1,24,.slice 91,[.nils 2]⟩
 |29=>some ⟨4,48,.struct [(0,3),(1,3),(2,3),(3,28)],[.d (.int .i64 0),.d (.int .i64 0),.d (.int .i64 0),.nils 2]⟩
 |30=>some ⟨4,48,.struct [(0,3),(1,3),(2,3),(3,28)],[.d (.int .i64 0),.d (.int .i64 0),.d (.int .i64 0),.nils 2]⟩
 |31=>some ⟨1,24,.slice 238,[.nils 5]⟩
 |32=>some ⟨1,24,.slice 3,[.nils 1]⟩
 |33=>some ⟨6,128,.struct [(0,27),(2,3),(3,32),(4,32),(5,32)],[.nils 1,.nils 2,.d (.int .i64 0),.nils 1,.nils 1,.nils 1]⟩
 |34=>some ⟨6,128,.struct [(0,27),(2,3),(3,32),(4,32),(5,32)],[.nils 1,.nils 2,.d (.int .i64 0),.nils 1,.nils 1,.nils 1]⟩
 |35=>some ⟨11,184,.struct [(0,30),(4,34),(10,3)],[.d (.int .i64 0),.d (.int .i64 0),.d (.int .i64 0),.nils 2,.nils 1,.nils 2,.d (.int .i64 0),.nils 1,.nils 1,.nils 1,.d (.int .i64 0)]⟩
 |36=>some ⟨11,184,.struct [(0,30),(4,34),(10,3)],[.d (.int .i64 0),.d (.int .i64 0),.d (.int .i64 0),.nils 2,.nils 1,.nils 2,.d (.int .i64 0),.nils 1,.nils 1,.nils 1,.d (.int .i64 0)]⟩
 |37=>some ⟨20,312,.struct [(0,27),(2,30),(6,31),(7,36),(18,4),(19,4)],[.nils 1,.nils 2,.d (.int .i64 0),.d (.int .i64 0),.d (.int .i64 0),.nils 2,.nils 5,.d (.int .i64 0),.d (.int .i64 0),.d (.int .i64 0),.nils 2,.nils 1,.nils 2,.d (.int .i64 0),.nils 1,.nils 1,.nils 1,.d (.int .i64 0),.d (.bool false),.d (.bool false)]⟩
 |38=>some ⟨20,312,.struct [(0,27),(2,30),(6,31),(7,36),(18,4),(19,4)],[.nils 1,.nils 2,.d (.int .i64 0),.d (.int .i64 0),.d (.int .i64 0),.nils 2,.nils 5,.d (.int .i64 0),.d (.int .i64 0),.d (.int .i64 0),.nils 2,.nils 1,.nils 2,.d (.int .i64 0),.nils 1,.nils 1,.nils 1,.d (.int .i64 0),.d (.bool false),.d (.bool false)]⟩
 |40=>some ⟨1,24,.slice 47,[.nils 2]⟩
 |46=>some ⟨2,32,.struct [(0,9),(1,9)],[.d (.str []),.d (.str [])]⟩
 |47=>some ⟨2,32,.struct [(0,9),(1,9)],[.d (.str []),.d (.str [])]⟩
 |68=>some ⟨4,80,.struct [(0,4),(1,24),(2,24),(3,32)],[.d (.bool false),.nils 1,.nils 1,.nils 1]⟩
 |69=>some ⟨4,80,.struct [(0,4),(1,24),(2,24),(3,32)],[.d (.bool false),.nils 1,.nils 1,.nils 1]⟩
 |90=>some ⟨2,32,.struct [(0,3),(1,32)],[.d (.int .i64 0),.nils 1]⟩
 |91=>some ⟨2,32,.struct [(0,3),(1,32)],[.d (.int .i64 0),.nils 1]⟩
 |98=>some ⟨1,24,.slice 101,[.nils 7]⟩
 |99=>some ⟨1,24,.slice 4,[.nils 1]⟩
 |100=>some ⟨7,88,.struct [(0,3),(1,3),(2,9),(3,9),(4,3),(5,99),(6,3)],[.d (.int .i64 0),.d (.int .i64 0),.d (.str []),.d (.str []),.d (.int .i64 0),.nils 1,.d (.int .i64 0)]⟩
 |101=>some ⟨7,88,.struct [(0,3),(1,3),(2,9),(3,9),(4,3),(5,99),(6,3)],[.d (.int .i64 0),.d (.int .i64 0),.d (.str []),.d (.str []),.d (.int .i64 0),.nils 1,.d (.int .i64 0)]⟩
 |102=>some ⟨1,24,.slice 251,[.nils 2]⟩
 |103=>some ⟨25,432,.struct [(0,38),(20,40),(21,40),(22,102),(23,32),(24,24)],[.nils 1,.nils 2,.d (.int .i64 0),.d (.int .i64 0),.d (.int .i64 0),.nils 2,.nils 5,.d (.int .i64 0),.d (.int .i64 0),.d (.int .i64 0),.nils 2,.nils 1,.nils 2,.d (.int .i64 0),.nils 1,.nils 1,.nils 1,.d (.int .i64 0),.d (.bool false),.d (.bool false),.nils 2,.nils 2,.nils 2,.nils 1,.nils 1]⟩
 |104=>some ⟨25,432,.struct [(0,38),(20,40),(21,40),(22,102),(23,32),(24,24)],[.nils 1,.nils 2,.d (.int .i64 0),.d (.int .i64 0),.d (.int .i64 0),.nils 2,.nils 5,.d (.int .i64 0),.d (.int .i64 0),.d (.int .i64 0),.nils 2,.nils 1,.nils 2,.d (.int .i64 0),.nils 1,.nils 1,.nils 1,.d (.int .i64 0),.d (.bool false),.d (.bool false),.nils 2,.nils 2,.nils 2,.nils 1,.nils 1]⟩
 |109=>some ⟨1,8,.ptr,[.d .nilp]⟩
 |111=>some ⟨1,8,.ptr,[.d .nilp]⟩
 |113=>some ⟨7,128,.struct [(0,27),(2,32),(3,40),(4,32),(5,4),(6,4)],[.nils 1,.nils 2,.nils 1,.nils 2,.nils 1,.d (.bool false),.d (.bool false)]⟩
 |114=>some ⟨7,128,.struct [(0,27),(2,32),(3,40),(4,32),(5,4),(6,4)],[.nils 1,.nils 2,.nils 1,.nils 2,.nils 1,.d (.bool false),.d (.bool false)]⟩
 |137=>some ⟨1,8,.ptr,[.d .nilp]⟩
 |138=>some ⟨7,136,.struct [(0,34),(6,4)],[.nils 1,.nils 2,.d (.int .i64 0),.nils 1,.nils 1,.nils 1,.d (.bool false)]⟩
 |139=>some ⟨7,136,.struct [(0,34),(6,4)],[.nils 1,.nils 2,.d (.int .i64 0),.nils 1,.nils 1,.nils 1,.d (.bool false)]⟩
 |140=>some ⟨1,24,.slice 144,[.nils 2]⟩
 |143=>some ⟨2,24,.struct [(0,9),(1,3)],[.d (.str []),.d (.int .i64 0)]⟩
 |144=>some ⟨2,24,.struct [(0,9),(1,3)],[.d (.str []),.d (.int .i64 0)]⟩
 |146=>some ⟨1,8,.ptr,[.d .nilp]⟩
 |148=>some ⟨5,80,.struct [(0,40),(1,32),(2,32),(3,4),(4,4)],[.nils 2,.nils 1,.nils 1,.d (.bool false),.d (.bool false)]⟩
 |149=>some ⟨5,80,.struct [(0,40),(1,32),(2,32),(3,4),(4,4)],[.nils 2,.nils 1,.nils 1,.d (.bool false),.d (.bool false)]⟩
 |156=>some ⟨1,8,.ptr,[.d .nilp]⟩
 |157=>some ⟨3,32,.struct [(0,9),(1,3),(2,4)],[.d (.str []),.d (.int .i64 0),.d (.bool false)]⟩
 |158=>some ⟨3,32,.struct [(0,9),(1,3),(2,4)],[.d (.str []),.d (.int .i64 0),.d (.bool false)]⟩
 |161=>some ⟨2,24,.struct [(0,3),(1,9)],[.d (.int .i64 0),.d (.str [])]⟩
 |162=>some ⟨2,24,.struct [(0,3),(1,9)],[.d (.int .i64 0),.d (.str [])]⟩
 |175=>some ⟨1,8,.ptr,[.d .nilp]⟩
 |195=>some ⟨1,8,.ptr,[.d .nilp]⟩
 |199=>some ⟨3,40,.struct [(0,22),(1,3),(2,3)],[.nils 1,.d (.int .i64 0),.d (.int .i64 0)]⟩
 |200=>some ⟨3,40,.struct [(0,22),(1,3),(2,3)],[.nils 1,.d (.int .i64 0),.d (.int .i64 0)]⟩
 |202=>some ⟨1,8,.int .u64,[.d (.int .u64 0)]⟩
 |203=>some ⟨1,8,.ptr,[.d .nilp]⟩
 |204=>some ⟨3,32,.struct [(0,9),(1,3),(2,4)],[.d (.str []),.d (.int .i64 0),.d (.bool false)]⟩
 |205=>some ⟨3,32,.struct [(0,9),(1,3),(2,4)],[.d (.str []),.d (.int .i64 0),.d (.bool false)]⟩
 |223=>some ⟨1,4,.int .u32,[.d (.int .u32 0)]⟩
 |237=>some ⟨5,56,.struct [(0,3),(1,30)],[.d (.int .i64 0),.d (.int .i64 0),.d (.int .i64 0),.d (.int .i64 0),.nils 2]⟩
 |238=>some ⟨5,56,.struct [(0,3),(1,30)],[.d (.int .i64 0),.d (.int .i64 0),.d (.int .i64 0),.d (.int .i64 0),.nils 2]⟩
 |250=>some ⟨2,32,.struct [(0,3),(1,40)],[.d (.int .i64 0),.nils 2]⟩
 |251=>some ⟨2,32,.struct [(0,3),(1,40)],[.d (.int .i64 0),.nils 2]⟩
 |263=>some ⟨1,24,.slice 69,[.nils 4]⟩
 |288=>some ⟨1,8,.int .i64,[.d (.int .i64 0)]⟩
 |297=>some ⟨1,8,.int .u64,[.d (.int .u64 0)]⟩
 |303=>some ⟨1,24,.slice 40,[.nils 1]⟩
 |305=>some ⟨1,8,.int .u64,[.d (.int .u64 0)]⟩
 |309=>some ⟨1,8,.ptr,[.d .nilp]⟩
 |321=>some ⟨1,1,.int .u8,[.d (.int .u8 0)]⟩
 |322=>some ⟨1,1,.int .u8,[.d (.int .u8 0)]⟩
 |_=>none
theorem ZxT:TyOK Go.Proofs.Tryz.prog tysZ:=by
 refine ZyA fun t i h=>?_;unfold tysZ at h;split at h<;>first|(cases h;kernel_rfl)|cases h
theorem Zx5:Go.Proofs.Tryz.prog.follows .mixedOrders=true:=by kernel_rfl
theorem cof {f:FuncId} {fn:Func} {c:Code} (hf:Go.Proofs.Tryz.prog.funcs[f]? =some fn) (hr hl:ZW) (np:List Bool) {args:List V} {H:List (Nat×AObj)} {outs:List V} {res:V} {H':List (Nat×AObj)}
  (hv:cVC tysZ Go.Proofs.Tryz.prog hr hl c (Zjk args H) (retK fn.results.toList np tysZ outs res H')) (hb:fn.body=some c:=by rfl) (hname:(fn.name== "runtime.NumGoroutine")=false:=by kernel_rfl) (hd:Zdv (ZfH fn.ntmps np) c=true:=by kernel_rfl) (hlen:args.length≤fn.ntmps:=by exact Nat.le_of_ble_eq_true (by kernel_rfl)):ZQ Go.Proofs.Tryz.prog f args H outs res H':=
 Zzy ZxT Zx5 hf hname hb hd hr hl hlen hv
theorem cofF {f:FuncId} {fn:Func} {c:Code} (hf:Go.Proofs.Tryz.prog.funcs[f]? =some fn) (hr hl:ZW) {args outs:List V} {res:V}
  (hv:cVC tysZ Go.Proofs.Tryz.prog hr hl c (Zjk args []) (retF fn.results.toList tysZ res)) (hb:fn.body=some c:=by rfl) (hname:(fn.name== "runtime.NumGoroutine")=false:=by kernel_rfl) (hd:Zdv (ZfH fn.ntmps []) c=true:=by kernel_rfl) (hlen:args.length≤fn.ntmps:=by exact Nat.le_of_ble_eq_true (by kernel_rfl)) (ho:(outs.all fun x=>match x with| .dead=>true|_=>false)=true:=by rfl):ZQ Go.Proofs.Tryz.prog f args [] outs res []:=
 Zzz ZxT Zx5 hf hname hb hd hr hl hlen ho hv
@[go_sem] def hr162:ZW:=hh [[0,1,2],[0,1,2]]
@[go_sem] def hl162:ZW:=hh []
attribute [go_sem] Go.Proofs.Tryz.results162
@[go_sem] def hr96:ZW:=hh [[0,1,2],[0,1,2]]
@[go_sem] def hl96:ZW:=hh []
attribute [go_sem] Go.Proofs.Tryz.results96
theorem cs_in (n lo hi:Int):ZQ Go.Proofs.Tryz.prog 96 [.d (.int .i64 n),.d (.int .i64 lo),.d (.int .i64 hi)] [] [.dead,.dead,.dead] (.d (.bool (decide (lo≤n∧n≤hi)))) []:=by
 refine cof Go.Proofs.Tryz.func96 hr96 hl96 [false,false,false] ?_;simp -implicitDefEqProofs only [go_sem];refine ZlT (fun h1=>?_) (fun h1=>?_)
 ·simp -implicitDefEqProofs only [go_sem];simp [h1]
 ·simp -implicitDefEqProofs only [go_sem];simp [h1]
def Zbx (n lo hi:Int):=kf (cs_in n lo hi)
@[go_sem] def hr163:ZW:=hh [[0],[0],[0,3],[0,3],[0,3],[0,3]]
@[go_sem] def hl163:ZW:=hh [[],[],[0,3]]
attribute [go_sem] Go.Proofs.Tryz.results163
@[go_sem] def hr202:ZW:=hh [[0],[0],[0,3],[0,3],[0,3],[0,3]]
@[go_sem] def hl202:ZW:=hh [[],[],[0,3]]
attribute [go_sem] Go.Proofs.Tryz.results202
theorem Zsx (n:Nat) (hn:n<9223372036854775808):ZQ Go.Proofs.Tryz.prog 202 [.d (.int .i64 n)] [] [.dead] (.d (.str (varB n))) []:=by
 refine cof Go.Proofs.Tryz.func202 hr202 hl202 [false] ?_;simp -implicitDefEqProofs only [go_sem];refine ZY (α:=List UInt8×Nat) (fun x=>⟨[(0,.d (.int .i64 x.2)),(3,.own 0 0 x.1.length)],[(0,some (.arr 1 (bys x.1)))]⟩)
  (fun x=>x.1++varB x.2=varB n∧x.2<9223372036854775808) (fun x=>x.2) ([],n) rfl ⟨rfl,hn⟩ ?_
 rintro ⟨out,m⟩ ⟨h1,h2⟩;simp only at h1 h2;have hl:out.length≤9:=by have:=ZdR hn;rw [←h1,List.length_append] at this;omega
 simp -implicitDefEqProofs only [go_sem];refine Zfi (fun h3=>?_) (fun h3=>?_)
 ·have e1:(m:Int).tmod 128=((m%128:Nat):Int):=by rw [Int.tmod_eq_emod_of_nonneg (by omega)];omega
  have e2:IntKind.i64.wrap (((m%128:Nat):Int)+128)=((m%128+128:Nat):Int):=by rw [Zad (by omega) (by omega)];omega
  have e3:IntKind.i64.wrap ((m:Int).tdiv 128)=((m / 128:Nat):Int):=by rw [Int.tdiv_eq_ediv_of_nonneg (by omega),Zad (by omega) (by omega)];omega
  simp -implicitDefEqProofs only [go_sem,e1,e2,e3,Zea];repeat ((first|refine rq ?_|fail);simp -implicitDefEqProofs only [go_sem,e1,e2,e3,Zea])
  refine ZP (out++[UInt8.ofNat (m%128+128)],m / 128) (by simp) ⟨?_,?_⟩ ?_
  ·simp only;rw [ZtF (by omega)];exact h1
  ·simp only;omega
  ·simp only;omega
 ·simp -implicitDefEqProofs only [go_sem,Zea];repeat ((first|refine req rfl ?_|refine rq ?_|fail);simp -implicitDefEqProofs only [go_sem,Zea,Zrn,Zp0])
  rw [ZcU (by omega)] at h1;rw [h1]
def Zbt (n:Nat) (hn:n<9223372036854775808):=kf (Zsx n hn)
def rvV:Option (Nat×Nat)→V
 |none=> .tup [.d (.int .i64 0),.d (.int .i64 0),.d (.bool false)]
 |some (n,a)=> .tup [.d (.int .i64 n),.d (.int .i64 a),.d (.bool true)]
theorem Zrc {o:Option (Nat×Nat)}:ZcQ (rvV o):=by rcases o with _|⟨n,a⟩<;>exact Ze9 rfl
@[go_sem] def hr225:ZW:=hh [[0,1],[0,1],[],[0,1],[0,1,7],[0,1,7,8],[0,1,7,8],[0,1,7,8],[0,1,7,8,9],[0,1,7,8,9],[1,7,8,9],[],[1,7,8],[]]
@[go_sem] def hl225:ZW:=hh [[],[],[],[],[],[0,1,7,8]]
attribute [go_sem] Go.Proofs.Tryz.results225
def more (l:List UInt8):Prop:=∀x∈l,127<x.toNat
def valB:List UInt8→Nat
 |[]=>0
 |x::l=>x.toNat%128+128*valB l
theorem ZmG {l:List UInt8} {x:UInt8}:valB (l++[x])=valB l+x.toNat%128*128 ^ l.length:=by
 induction l with
 |nil=>simp [valB]
 |cons y l ih=>
  simp only [List.cons_append,valB,List.length_cons,ih,Nat.mul_add,Nat.pow_succ];have:128*(x.toNat%128*128 ^ l.length)=x.toNat%128*(128 ^ l.length*128):=by rw [Nat.mul_comm,Nat.mul_assoc]
  omega
theorem ZtI {l:List UInt8}:valB l<128 ^ l.length:=by
 induction l with
 |nil=>simp [valB]
 |cons y l ih=>simp only [valB,List.length_cons,Nat.pow_succ];have:=Zh7 y;omega
theorem Zg5:∀ {l:List UInt8} {r:List UInt8} {k n:Nat},more l→k+l.length≤5→rvGo k n (l++r)=rvGo (k+l.length) (n+valB l*128 ^ k) r
 |[],r,k,n,_,_=>by simp [valB]
 |x::l,r,k,n,h,hk=>by
  simp only [List.length_cons] at hk;rw [List.cons_append,rvGo,if_neg (by omega),if_pos (h x (by simp)),Zg5 (fun y hy=>h y (by simp [hy])) (by omega)];simp only [List.length_cons,valB];congr 1
  ·omega
  ·rw [Nat.pow_succ,Nat.add_mul,Nat.mul_comm 128 (valB l),Nat.mul_assoc,Nat.mul_comm 128,Nat.add_assoc]
theorem ZyQ {l r:List UInt8} {x:UInt8} (hm:more l) (hl:l.length<5) (hx:x.toNat<128):
  rv (l++x::r)=if 1000000000<valB (l++[x])∨varB (valB (l++[x]))≠l++[x] then none else some (valB (l++[x]),r):=by
 have h0:rv (l++x::r)=rvGo l.length (valB l) (x::r):=by
  unfold rv;rw [Zg5 hm (by omega)];simp
 have hv:valB (l++[x])=valB l+x.toNat*128 ^ l.length:=by rw [ZmG,Nat.mod_eq_of_lt hx]
 split
 ·rename_i h;rw [h0,rvGo,if_neg (by omega),if_neg (by omega)];split
  ·rfl
  ·rename_i h2
   exfalso
   have h3:rv (l++x::r)=some (valB (l++[x]),r):=by
    rw [h0,rvGo,if_neg (by omega),if_neg (by omega),if_neg h2,hv]
   obtain ⟨g1,g2⟩:=ZdW.1 h3;rcases h with h|h
   ·omega
   ·have:l++[x]++r=varB (valB (l++[x]))++r:=by rw [←g2];simp
    exact h (List.append_cancel_right this).symm
 ·rename_i h;exact ZdW.2 ⟨by omega,by rw [Decidable.byContradiction fun e=>h (.inr e)];simp⟩
theorem ZyP {l:List UInt8} (hm:more l) (hl:l.length=5) {r:List UInt8}:rv (l++r)=none:=by
 unfold rv;rw [Zg5 hm (by omega)];cases r with
 |nil=>rfl
 |cons x r=>rw [rvGo,if_pos (by omega)]
theorem ZwJ {l:List UInt8} (hm:more l) (hl:l.length≤5):rv l=none:=by
 have:=Zg5 (r:=[]) (k:=0) (n:=0) hm (by omega);rw [List.append_nil] at this;unfold rv;rw [this];rfl
@[go_sem] def hr184:ZW:=hh [[0,1],[0,1],[],[0,1],[0,1,7],[0,1,7,8],[0,1,7,8,9],[0,1,7,8,9],[0,1,7,8,9],[0,1,7,8,9],[0,1,7,8,9],[0,1,7,9],[],[7,9],[]]
@[go_sem] def hl184:ZW:=hh [[],[],[],[],[],[],[0,1,7,8,9]]
attribute [go_sem] Go.Proofs.Tryz.results184
theorem ZsM (t:List UInt8) (a:Int) (ht:t.length≤4611686018427387904):ZQ Go.Proofs.Tryz.prog 184 [.d (.str t),.d (.int .i64 a)] [] [.dead,.dead] (rvV (ZbF t a)) []:=by
 refine cof Go.Proofs.Tryz.func184 hr184 hl184 [false,false] ?_;simp -implicitDefEqProofs only [go_sem];refine Zbx _ _ _ rfl ?_;simp -implicitDefEqProofs only [go_sem];refine Zqp (fun h0=>?_) (fun h0=>?_)
 ·simp -implicitDefEqProofs only [go_sem];rw [ZbF,if_neg h0];rfl
 ·obtain ⟨a,rfl⟩:=Int.eq_ofNat_of_zero_le h0.1;simp -implicitDefEqProofs only [go_sem];refine ZY (α:=Nat) (fun k=>⟨[(0,.d (.str t)),(1,.d (.int .i64 a)),(7,.d (.int .i64 (valB ((t.drop a).take k):Nat))),(8,.d (.int .i64 (128 ^ k:Nat))),(9,.d (.int .i64 ((a+k:Nat):Int)))],[]⟩)
   (fun k=>k≤5∧a+k≤t.length∧more ((t.drop a).take k)) (fun k=>5 - k) 0 ?_ ⟨by omega,by omega,fun x hx=>by simp at hx⟩ ?_
  ·simp [valB]
  rintro k ⟨h1,h2,h3⟩;have hadd:IntKind.i64.wrap ((a:Int)+5)=((a+5:Nat):Int):=by rw [Zad (by omega) (by omega)];omega
  have hlen:((t.drop a).take k).length=k:=by simp;omega
  have hsplit:t.drop a=(t.drop a).take k++t.drop (a+k):=by rw [←List.drop_drop,List.take_append_drop]
  have hvl:=ZtI (l:=(t.drop a).take k);rw [hlen] at hvl;simp -implicitDefEqProofs only [go_sem,hadd];refine fork (fun h5=>?_) (fun h5=>?_)
  ·simp -implicitDefEqProofs only [go_sem,hadd];refine fork (fun h6=>?_) (fun h6=>?_)
   ·obtain ⟨x,hx⟩:=Z3 (l:=t) (i:=a+k) h5;have hx0:=Zh7 x;have hp:128 ^ (k+1)≤128 ^ 5:=Nat.pow_le_pow_right (by omega) (by omega);have hp5:(128:Nat) ^ 5=34359738368:=by decide
    have hps:128 ^ (k+1)=128 ^ k*128:=Nat.pow_succ ..;have hd:(t.drop a)[k]? =some x:=by rw [List.getElem?_drop];exact hx
    have e0:IntKind.i64.wrap ((x.toNat:Nat):Int)=(x.toNat:Nat):=Zqn (by omega);have e1:((x.toNat:Nat):Int).tmod 128=((x.toNat%128:Nat):Int):=by rw [Int.tmod_eq_emod_of_nonneg (by omega)];omega
    have hm:x.toNat%128*128 ^ k≤127*128 ^ k:=Nat.mul_le_mul_right _ (by omega);have e2:IntKind.i64.wrap (((x.toNat%128:Nat):Int)*((128 ^ k:Nat):Int))=((x.toNat%128*128 ^ k:Nat):Int):=by
     have:(((x.toNat%128:Nat):Int)*((128 ^ k:Nat):Int))=((x.toNat%128*128 ^ k:Nat):Int):=by norm_cast
     rw [this];exact Zqn (by omega)
    have e3:IntKind.i64.wrap ((valB ((t.drop a).take k):Nat)+((x.toNat%128*128 ^ k:Nat):Int))=((valB ((t.drop a).take (k+1)):Nat):Int):=by
     rw [Z7 hd,ZmG,hlen,Zad (by omega) (by omega)];omega
    have e4:IntKind.i64.wrap (((128 ^ k:Nat):Int)*128)=((128 ^ (k+1):Nat):Int):=by rw [Zad (by omega) (by omega)];omega
    have e5:IntKind.i64.wrap (((a+k:Nat):Int)+1)=((a+(k+1):Nat):Int):=by rw [Zad (by omega) (by omega)];omega
    have hv2:=ZtI (l:=(t.drop a).take (k+1));have hl2:((t.drop a).take (k+1)).length=k+1:=by simp;omega
    rw [hl2] at hv2;have hsl:(t.take (a+(k+1))).drop a=(t.drop a).take (k+1):=by rw [List.drop_take];congr 1;omega
    have hdx:=ZbU hx;simp -implicitDefEqProofs only [go_sem,hadd,getD_some hx,e0,e1,e2,e3,e4,e5];repeat ((first|refine rq ?_|fail);simp -implicitDefEqProofs only [go_sem,hadd,getD_some hx,e0,e1,e2,e3,e4,e5])
    refine fork (fun h7=>?_) (fun h7=>?_)
    ·have hx7:x.toNat<128:=by omega
     have hrv:=ZyQ (r:=t.drop (a+k+1)) h3 (by omega) hx7;rw [←hdx,←hsplit,←Z7 hd] at hrv;by_cases h8:(1000000000:Int)<((valB ((t.drop a).take (k+1)):Nat):Int)
     ·have d8:=decide_eq_true h8;simp -implicitDefEqProofs only [go_sem,d8];repeat ((first|refine rq ?_|fail);simp -implicitDefEqProofs only [go_sem,d8])
      rw [if_pos (.inl (by omega))] at hrv;rw [ZbF,if_pos h0,Int.toNat_natCast,hrv];rfl
     ·have d8:=decide_eq_false h8;simp -implicitDefEqProofs only [go_sem,d8];refine Zbt (valB ((t.drop a).take (k+1))) (by omega) rfl ?_;simp -implicitDefEqProofs only [go_sem,d8,e5,hsl];repeat ((first|refine rq ?_|fail);simp -implicitDefEqProofs only [go_sem,d8,e5,hsl])
      refine fork (fun h9=>?_) (fun h9=>?_)
      ·simp -implicitDefEqProofs only [go_sem];rw [if_pos (.inr h9)] at hrv;rw [ZbF,if_pos h0,Int.toNat_natCast,hrv];rfl
      ·simp -implicitDefEqProofs only [go_sem,e5];rw [if_neg (fun h=>h.elim (fun h=>by omega) (fun h=>h h9))] at hrv;rw [ZbF,if_pos h0,Int.toNat_natCast,hrv];have g2:t.length - (t.length - (a+k+1))=a+(k+1):=by omega
       simp only [Option.map_some,rvV,List.length_drop,g2]
    ·simp -implicitDefEqProofs only [go_sem];refine ZP (k+1) (by rw [e5]) ⟨by omega,by omega,?_⟩ (by omega);rw [Z7 hd];intro y hy;rcases List.mem_append.1 hy with hy|hy
     ·exact h3 y hy
     ·simp at hy;subst hy;omega
   ·simp -implicitDefEqProofs only [go_sem];have hk:k=5:=by omega
    have:rv (t.drop a)=none:=by rw [hsplit];exact ZyP h3 (by omega)
    rw [ZbF,if_pos h0,Int.toNat_natCast,this];rfl
  ·simp -implicitDefEqProofs only [go_sem];have he:t.drop (a+k)=[]:=List.drop_eq_nil_of_le (by omega);rw [he,List.append_nil] at hsplit;have:rv (t.drop a)=none:=by rw [hsplit];exact ZwJ h3 (by omega)
   rw [ZbF,if_pos h0,Int.toNat_natCast,this];rfl
theorem Zlk {h:Heap} {tb:Nat} {K:OK} {args:List V} {ls:List Nat} (t:List UInt8) (a:Int) (ht:t.length≤4611686018427387904) (hg:toDs h args=some ([.str t,.int .i64 a],ls)) (hfl:ZcQ (rvV (ZbF t a))∧ZhJ ([]))
  (hk:K (renV (bk tb ([])) (rvV (ZbF t a))) (updN tb ([]) ([]))):Z2 Go.Proofs.Tryz.prog h tb 184 args K:=
 ZcM hg (ZsM t a ht) rfl (.inr hfl) hk
def rsV:Option (List UInt8×Nat)→V
 |none=> .tup [.d (.str []),.d (.int .i64 0),.d (.bool false)]
 |some (s,a)=> .tup [.d (.str s),.d (.int .i64 a),.d (.bool true)]
theorem Zxi {o:Option (List UInt8×Nat)}:ZcQ (rsV o):=by rcases o with _|⟨n,a⟩<;>exact Ze9 rfl
@[go_sem] def hr226:ZW:=hh [[0,1],[0,1],[0,7,8,9],[],[0,7,8]]
@[go_sem] def hl226:ZW:=hh []
attribute [go_sem] Go.Proofs.Tryz.results226
@[go_sem] def hr185:ZW:=hh [[0,1],[0,1],[0,7,8,9],[],[0,7,8]]
@[go_sem] def hl185:ZW:=hh []
attribute [go_sem] Go.Proofs.Tryz.results185
theorem Zob (t:List UInt8) (a:Int) (ht:t.length≤4611686018427387904):ZQ Go.Proofs.Tryz.prog 185 [.d (.str t),.d (.int .i64 a)] [] [.dead,.dead] (rsV (ZbQ t a)) []:=by
 refine cof Go.Proofs.Tryz.func185 hr185 hl185 [false,false] ?_;simp -implicitDefEqProofs only [go_sem];refine Zlk t a ht rfl ⟨Zrc,Zd6⟩ ?_;rw [ZbQ];cases hv:ZbF t a with
 |none=>
  simp only [rvV];simp -implicitDefEqProofs only [go_sem];rfl
 |some p=>
  obtain ⟨n,b⟩:=p;obtain ⟨g1,g2,g3,g4⟩:=ZfR hv;have e1:IntKind.i64.wrap ((t.length:Int) - (b:Int))=((t.length - b:Nat):Int):=by rw [Zad (by omega) (by omega)];omega
  have e2:IntKind.i64.wrap ((b:Int)+(n:Int))=((b+n:Nat):Int):=by rw [Zad (by omega) (by omega)];omega
  simp only [rvV];simp -implicitDefEqProofs only [go_sem,e1,e2];refine fork (fun h1=>?_) (fun h1=>?_)
  ·simp -implicitDefEqProofs only [go_sem,e1,e2];refine fork (fun h2=>?_) (fun h2=>?_)
   ·simp -implicitDefEqProofs only [go_sem,e1,e2];rw [if_neg (by omega)];rfl
   ·simp -implicitDefEqProofs only [go_sem,e1,e2];repeat ((first|refine rq ?_|fail);simp -implicitDefEqProofs only [go_sem,e1,e2])
    rw [if_pos (by omega)];rfl
  ·simp -implicitDefEqProofs only [go_sem,e1,e2];rw [if_neg (by omega)];rfl
theorem Znv {h:Heap} {tb:Nat} {K:OK} {args:List V} {ls:List Nat} (t:List UInt8) (a:Int) (ht:t.length≤4611686018427387904) (hg:toDs h args=some ([.str t,.int .i64 a],ls)) (hfl:ZcQ (rsV (ZbQ t a))∧ZhJ ([]))
  (hk:K (renV (bk tb ([])) (rsV (ZbQ t a))) (updN tb ([]) ([]))):Z2 Go.Proofs.Tryz.prog h tb 185 args K:=
 ZcM hg (Zob t a ht) rfl (.inr hfl) hk
theorem Zqt (x:UInt8):IntKind.u32.wrap ((x.toNat:Nat):Int)=(x.toNat:Nat):=Ztu (by have:=Zh7 x;omega)
@[go_sem] def hr267:ZW:=hh [[0,1],[0,1],[0,1,8,9],[0,1,8,9],[0,1,5,8,9],[0,1,8,9],[0,1,8,9,18],[0,1,8,9,18],[0,1,6,8,9,18],[0,1,6,8,9,18],[0,1,8,9,18],[0,1,8,9,18],[0,1,8,9],[0]]
@[go_sem] def hl267:ZW:=hh [[],[],[0,1,8,9],[],[],[],[0,1,8,9,18]]
attribute [go_sem] Go.Proofs.Tryz.results267
@[go_sem] def hr234:ZW:=hh [[0,1],[0,1],[0,1,5],[0,1,5],[0,1,5],[0,1,5],[0,1,5,6],[0,1,5,6],[0,1,5,6],[0,1,5,6,7],[0,1,5,6,7],[0,1,5,6],[0]]
@[go_sem] def hl234:ZW:=hh [[],[],[0,1,5],[],[],[],[0,1,5,6]]
attribute [go_sem] Go.Proofs.Tryz.results234
theorem ZsL (s:Nat) (t:List UInt8) (hs:s<4294967296) (ht:t.length≤LEN):ZQ Go.Proofs.Tryz.prog 234 [.d (.int .u32 s),.d (.str t)] [] [.dead,.dead] (.d (.int .u32 (Zep s t:Nat))) []:=by
 refine cof Go.Proofs.Tryz.func234 hr234 hl234 [false,false] ?_;simp -implicitDefEqProofs only [go_sem];refine ZY (α:=Nat) (fun i=>⟨[(0,.d (.int .u32 (Zep s (t.take i):Nat))),(1,.d (.str t)),(5,.d (.int .i64 i))],[]⟩)
  (fun i=>i≤t.length) (fun i=>t.length - i) 0 rfl (Nat.zero_le _) ?_
 rintro i h1;simp -implicitDefEqProofs only [go_sem];refine fork (fun h2=>?_) (fun h2=>?_)
 ·obtain ⟨x,hx⟩:=Z3 h2;have hl:=ZhL (t:=t.take i) hs;have hb:=Zh7 x;have e1:=xor32 hl (b:=x.toNat) (by omega);have hx1:Zep s (t.take i) ^^^ x.toNat<4294967296:=Nat.xor_lt_two_pow (n:=32) hl (by omega);simp -implicitDefEqProofs only [go_sem,getD_some hx,Zqt,e1];repeat ((first|refine rq ?_|fail);simp -implicitDefEqProofs only [go_sem,getD_some hx,Zqt,e1])
  refine ZY (α:=Nat×Nat) (fun y=>⟨[(0,.d (.int .u32 y.2)),(1,.d (.str t)),(5,.d (.int .i64 i)),(6,.d (.int .i64 y.1))],[]⟩)
   (fun y=>y.1≤8∧y.2<4294967296∧Zkc (8 - y.1) y.2=Zkb (Zep s (t.take i)) x.toNat) (fun y=>8 - y.1) (0,_) rfl ⟨by omega,hx1,rfl⟩ ?_
  rintro ⟨k,z⟩ ⟨g1,g2,g3⟩;simp only at g1 g2 g3;simp -implicitDefEqProofs only [go_sem];have c1:(z:Int).tmod 2=((z%2:Nat):Int):=by rw [Int.tmod_eq_emod_of_nonneg (by omega)];omega
  have c2:IntKind.u32.wrap ((z:Int).tdiv 2)=((z / 2:Nat):Int):=by
   have:(z:Int).tdiv 2=((z / 2:Nat):Int):=by rw [Int.tdiv_eq_ediv_of_nonneg (by omega)];omega
   rw [this];exact Ztu (by omega)
  have c3:=xor32 (a:=z / 2) (b:=3558460437) (by omega) (by omega);simp only [Int.cast_ofNat_Int,Int.natCast_one] at c3;refine fork (fun h3=>?_) (fun h3=>?_)
  ·have hk:8 - k=(8 - (k+1))+1:=by omega
   rw [hk,Zkc] at g3;simp -implicitDefEqProofs only [go_sem,c1,c2,c3];repeat ((first|refine rq ?_|fail);simp -implicitDefEqProofs only [go_sem,c1,c2,c3])
   have hz:=Zog g2;refine fork (fun h4=>?_) (fun h4=>?_)
   ·simp -implicitDefEqProofs only [go_sem,c3];rw [ZV (by simp only [LEN];omega)];refine ZP (k+1,Zkd z) ?_ ⟨by simp only;omega,hz,g3⟩ (by simp only;omega);rw [Zkd,if_pos (by omega)]
   ·simp -implicitDefEqProofs only [go_sem];rw [ZV (by simp only [LEN];omega)];refine ZP (k+1,Zkd z) ?_ ⟨by simp only;omega,hz,g3⟩ (by simp only;omega);rw [Zkd,if_neg (by omega)]
  ·simp -implicitDefEqProofs only [go_sem];obtain rfl:k=8:=by omega
   rw [ZV (by omega)];refine ZP (i+1) ?_ (by omega) (by omega);rw [ZmM hx,←g3];rfl
 ·simp -implicitDefEqProofs only [go_sem];rw [List.take_of_length_le (by omega)]
def Zr8 (s:Nat) (t:List UInt8) (hs:s<4294967296) (ht:t.length≤LEN):=kf (ZsL s t hs ht)
@[go_sem] def hr229:ZW:=hh [[0],[0]]
@[go_sem] def hl229:ZW:=hh []
attribute [go_sem] Go.Proofs.Tryz.results229
@[go_sem] def hr183:ZW:=hh [[0],[0]]
@[go_sem] def hl183:ZW:=hh []
attribute [go_sem] Go.Proofs.Tryz.results183
theorem Zxv (t:List UInt8) (ht:t.length≤LEN):ZQ Go.Proofs.Tryz.prog 183 [.d (.str t)] [] [.dead] (.d (.int .u32 (ZlZ t:Nat))) []:=by
 refine cof Go.Proofs.Tryz.func183 hr183 hl183 [false] ?_;simp -implicitDefEqProofs only [go_sem];refine Zr8 4294967295 t (by omega) ht rfl ?_;simp -implicitDefEqProofs only [go_sem];rfl
def ZqX (t:List UInt8) (ht:t.length≤LEN):=kf (Zxv t ht)
theorem Zsp {n:Nat} (h:n<4294967296):IntKind.u8.wrap (bShr .u32 (n:Int) 24)=((UInt8.ofNat (n / 16777216)).toNat:Nat)∧IntKind.u8.wrap (bShr .u32 (n:Int) 16)=((UInt8.ofNat (n / 65536)).toNat:Nat)∧
  IntKind.u8.wrap (bShr .u32 (n:Int) 8)=((UInt8.ofNat (n / 256)).toNat:Nat)∧IntKind.u8.wrap (n:Int)=((UInt8.ofNat n).toNat:Nat):=by
 have e1:=ZyM (a:=n) (k:=24) (by omega);have e2:=ZyM (a:=n) (k:=16) (by omega);have e3:=ZyM (a:=n) (k:=8) (by omega);simp only [Int.cast_ofNat_Int] at e1 e2 e3;rw [e1,e2,e3];refine ⟨?_,?_,?_,?_⟩<;>rw [wrap8]<;>simp
theorem Zxg {n:Nat}:[[D.int .u8 ((UInt8.ofNat (n / 16777216)).toNat:Nat)],[D.int .u8 ((UInt8.ofNat (n / 65536)).toNat:Nat)],[D.int .u8 ((UInt8.ofNat (n / 256)).toNat:Nat)],[D.int .u8 ((UInt8.ofNat n).toNat:Nat)]]=bys (four n):=rfl
theorem Zxh {n:Nat}:(bys (four n)).take 4=bys (four n):=rfl
@[go_sem] def hr164:ZW:=hh [[0],[0],[3]]
@[go_sem] def hl164:ZW:=hh []
attribute [go_sem] Go.Proofs.Tryz.results164
@[go_sem] def hr182:ZW:=hh [[0],[0]]
@[go_sem] def hl182:ZW:=hh []
attribute [go_sem] Go.Proofs.Tryz.results182
theorem Zzt (n:Nat) (hn:n<4294967296):ZQ Go.Proofs.Tryz.prog 182 [.d (.int .u32 n)] [] [.dead] (.d (.str (four n))) []:=by
 refine cof Go.Proofs.Tryz.func182 hr182 hl182 [false] ?_;obtain ⟨e1,e2,e3,e4⟩:=Zsp hn;simp -implicitDefEqProofs only [go_sem,e1,e2,e3,e4];repeat ((first|refine rq ?_|fail);simp -implicitDefEqProofs only [go_sem,e1,e2,e3,e4,Zxg,Zra,Zxh,Zrn,Zp0])
def ZuR (n:Nat) (hn:n<4294967296):=kf (Zzt n hn)
def unV:Option (List UInt8)→V
 |none=> .tup [.d (.str []),.d (.bool false)]
 |some s=> .tup [.d (.str s),.d (.bool true)]
theorem Zrb {o:Option (List UInt8)}:ZcQ (unV o):=by rcases o with _|s<;>exact Ze9 rfl
@[go_sem] def hr154:ZW:=hh [[0],[0],[0,4],[],[0,4]]
@[go_sem] def hl154:ZW:=hh []
attribute [go_sem] Go.Proofs.Tryz.results154
end Go.Rx
