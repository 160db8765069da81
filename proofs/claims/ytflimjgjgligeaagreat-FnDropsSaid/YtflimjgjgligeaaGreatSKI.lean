/-
  Part KI: lemmas on an evaluator over plain data of the model's code, plain laws on lists and numbers, or contracts of functions of the program; each lemma names its conditions.
-/
import Derived.Test.YtflimjgjgligeaaGreatSA1
import Derived.Test.YtflimjgjgligeaaGreatSA2
import Derived.Test.YtflimjgjgligeaaGreatSA3
import Derived.Test.YtflimjgjgligeaaGreatSA5
import Derived.Test.YtflimjgjgligeaaGreatSE1
import Derived.Test.YtflimjgjgligeaaGreatSE2
import Derived.Test.YtflimjgjgligeaaGreatSE4
import Derived.Test.YtflimjgjgligeaaGreatSE5
import Derived.Test.YtflimjgjgligeaaGreatSE6
import Derived.Test.YtflimjgjgligeaaGreatSP1
import Derived.Test.YtflimjgjgligeaaGreatSP2
import Derived.Test.YtflimjgjgligeaaGreatSR0

set_option linter.unusedSimpArgs false
set_option linter.unusedVariables false
set_option maxRecDepth 100000
set_option maxHeartbeats 16000000
set_option linter.defProp false
namespace Go.Rx
open Go Go.RowKit
section
variable {P:Program} {h:Heap} {tb:Nat} {f:FuncId} {args:List V} {K:OK} {xs:List D} {ls:List Nat} {res:V} {H':List (Nat×AObj)}
end
theorem ZBb {h:Heap} {x:D} {vs:List V} {xs:List D} {ls:List Nat} (e:toDs h vs=some (xs,ls)):toDs h (.d x::vs)=some (x::xs,ls):=by
 simp [toDs,toD,cD,e]
section
variable {w:World} {ok:Nat→Prop} {lam:Nat→Option Nat} {h:Heap}
end
end Go.Rx

namespace Go.Rx
open Go
theorem and64 {a b:Nat} (ha:a<9223372036854775808) (hb:b<9223372036854775808):bAnd .i64 (a:Int) (b:Int)=((a&&&b:Nat):Int):=by
 show IntKind.i64.wrap (((BitVec.ofInt 64 (a:Int)&&&BitVec.ofInt 64 (b:Int)).toNat:Nat):Int)=_;rw [Znf,Znf,BitVec.toNat_and,BitVec.toNat_ofNat,BitVec.toNat_ofNat,Nat.mod_eq_of_lt (by omega),Nat.mod_eq_of_lt (by omega)];exact Zqn (Nat.lt_of_le_of_lt Nat.and_le_left ha)
theorem or64 {a b:Nat} (ha:a<9223372036854775808) (hb:b<9223372036854775808):bOr .i64 (a:Int) (b:Int)=((a|||b:Nat):Int):=by
 show IntKind.i64.wrap (((BitVec.ofInt 64 (a:Int)|||BitVec.ofInt 64 (b:Int)).toNat:Nat):Int)=_;rw [Znf,Znf,BitVec.toNat_or,BitVec.toNat_ofNat,BitVec.toNat_ofNat,Nat.mod_eq_of_lt (by omega),Nat.mod_eq_of_lt (by omega)];exact Zqn (Nat.or_lt_two_pow (n:=63) ha hb)
theorem and32 {a b:Nat} (ha:a<4294967296) (hb:b<4294967296):bAnd .u32 (a:Int) (b:Int)=((a&&&b:Nat):Int):=by
 show IntKind.u32.wrap (((BitVec.ofInt 32 (a:Int)&&&BitVec.ofInt 32 (b:Int)).toNat:Nat):Int)=_;rw [Znf,Znf,BitVec.toNat_and,BitVec.toNat_ofNat,BitVec.toNat_ofNat,Nat.mod_eq_of_lt (by omega),Nat.mod_eq_of_lt (by omega)];exact Ztu (Nat.lt_of_le_of_lt Nat.and_le_left ha)
theorem shl64 {a k:Nat} (hk:k≤64) (h:a*2 ^ k<9223372036854775808):bShl .i64 (a:Int) (k:Int)=((a*2 ^ k:Nat):Int):=by
 show IntKind.i64.wrap ((a:Int)*2 ^ min ((k:Int).toNat) 64)=_;rw [Int.toNat_natCast,Nat.min_eq_left hk];have:((a:Int)*2 ^ k)=((a*2 ^ k:Nat):Int):=by norm_cast
 rw [this,Zqn h]
theorem ZD4 {n:Nat}:n&&&127=n%128:=Nat.and_two_pow_sub_one_eq_mod n 7
theorem and1n {n:Nat}:n&&&1=n%2:=Nat.and_two_pow_sub_one_eq_mod n 1
theorem ZA5 {a b k:Nat} (h:a<2 ^ k):a|||b*2 ^ k=a+b*2 ^ k:=by
 have:=Nat.shiftLeft_add_eq_or_of_lt (i:=k) (b:=a) h b;rw [Nat.shiftLeft_eq] at this;rw [Nat.or_comm,←this,Nat.add_comm]
theorem pow7 {k:Nat}:2 ^ (7*k)=128 ^ k:=by rw [Nat.pow_mul]
end Go.Rx

namespace Go.Rx
end Go.Rx

namespace Go.Rx
end Go.Rx

namespace Go.Rx
end Go.Rx

namespace Go.Rx
end Go.Rx

namespace Go.Rx
theorem ZAR {h:Heap}:∀ {xs:List D},toDs h (xs.map .d)=some (xs,[])
 |[]=>rfl
 |x::xs=>by rw [List.map_cons,ZBb ZAR]
theorem ZAf {h:Heap} {x:D} {xs:List D}:toDs h (.d x::xs.map .d)=some (x::xs,[]):=ZBb ZAR
theorem ZBj {α:Type} {p:α→Prop} [DecidablePred p] {l:List α}:(l.any fun x=>decide (p x))=decide (∃x∈l,p x):=by
 rw [Bool.eq_iff_iff];simp
end Go.Rx

namespace Go.Rx
end Go.Rx

namespace Go.Rx
end Go.Rx

namespace Go.Rx
open Go
theorem ZAS {t:List UInt8} {r:Nat×Bool} (h:r.1≤t.length):sfx t r=some []↔r.2=false∧r.1=t.length:=by
 unfold sfx;cases hb:r.2 with
 |true=>simp
 |false=>simp;omega
end Go.Rx

namespace Go.Rx
open Go
def ZzV (c:UInt8):Nat×Bool:=(1,decide (c.toNat≠108)&&decide (c.toNat≠98))
def Zz3 (s:List UInt8) (r:Nat×Bool):List (List UInt8×List UInt8)×(Nat×Bool):=rdLs s (rdV s 4 r).1 (rdV s 4 r).2
def ZzZ (s:List UInt8) (r:Nat×Bool):List (List UInt8×Int)×(Nat×Bool):=rdBs s 40 (rdV s 4 r).1 (rdV s 4 r).2
def ZzY (s:List UInt8) (r:Nat×Bool) (n:Z1):Option Z1:=if r.2=false∧r.1=s.length∧ZaA n then some n else none
theorem ZzX {s:List UInt8} {r:Nat×Bool} {n:Z1} (h:sfx s r=none):ZzY s r n=none:=by
 have:r.2=true:=by unfold sfx at h;split at h<;>simp_all
 simp [ZzY,this]
theorem Zz5 {s:List UInt8} {r:Nat×Bool} {n:Z1} {l:List UInt8} (hl:r.1≤s.length) (h:sfx s r=some l):ZzY s r n=match l with|[]=>if ZaA n then some n else none|_=>none:=by
 cases l with
 |nil=>
  obtain ⟨h1,h2⟩:=(ZAS hl).1 h;simp [ZzY,h1,h2]
 |cons x l=>
  have:¬(r.2=false∧r.1=s.length):=fun e=>by rw [(ZAS hl).2 e] at h;cases h
  simp only [ZzY];rw [if_neg (fun e=>this ⟨e.1,e.2.1⟩)]
theorem ZAg {c:UInt8} {b:List UInt8}:ZfS (c::b)=
  if c=108 then ZzY (c::b) (Zz3 (c::b) (ZzV c)).2 (Zb1 (Zz3 (c::b) (ZzV c)).1)
  else ZzY (c::b) (ZzZ (c::b) (ZzV c)).2 (Z0 (ZzZ (c::b) (ZzV c)).1):=by
 have hle:(ZzV c).1≤(c::b).length:=by simp [ZzV]
 have hv:=Zjr (most:=4) hle;have hle2:(rdV (c::b) (4:Nat) (ZzV c)).2.1≤(c::b).length:=Zm6 hle;by_cases hc:c=108
 ·rw [if_pos hc];have hs:sfx (c::b) (ZzV c)=some b:=by subst hc;rfl
  rw [hs] at hv;simp only at hv;simp only [ZfS,ZeG];rw [if_neg (fun h=>h.1 hc)];cases h1:rv b with
  |none=>
   rw [h1] at hv;simp only at hv;simp only;exact (ZzX (Zg9 hle2 hv.2)).symm
  |some p=>
   obtain ⟨k,l⟩:=p;rw [h1] at hv;simp only at hv;simp only;by_cases hk:4<k
   ·rw [if_neg (by omega)] at hv;rw [if_pos hk];exact (ZzX (Zg9 hle2 hv.2)).symm
   ·rw [if_pos (by omega)] at hv;rw [if_neg hk,if_pos hc];have h2:=Zua (k:=(rdV (c::b) (4:Nat) (ZzV c)).1) hle2 hv.2;rw [hv.1] at h2;cases h3:pl k l with
    |none=>
     rw [h3] at h2;refine (ZzX ?_).symm;unfold Zz3;rw [show rdV (c::b) 4 (ZzV c)=rdV (c::b) (4:Nat) (ZzV c) from rfl,hv.1];exact h2
    |some p=>
     obtain ⟨es,rest⟩:=p;rw [h3] at h2;simp only at h2;have e1:Zz3 (c::b) (ZzV c)=rdLs (c::b) k (rdV (c::b) (4:Nat) (ZzV c)).2:=by
      unfold Zz3;rw [show rdV (c::b) 4 (ZzV c)=rdV (c::b) (4:Nat) (ZzV c) from rfl,hv.1]
     rw [e1,h2.1,Zz5 (Zub hle2) h2.2];cases rest with
     |nil=>rfl
     |cons x r=>rfl
 ·rw [if_neg hc];simp only [ZfS,ZeG];by_cases hc2:c=98
  ·have hs:sfx (c::b) (ZzV c)=some b:=by subst hc2;rfl
   rw [hs] at hv;simp only at hv;rw [if_neg (fun h=>h.2 hc2)];cases h1:rv b with
   |none=>
    rw [h1] at hv;simp only at hv;simp only;exact (ZzX (ZfT (most:=40) hle2 hv.2)).symm
   |some p=>
    obtain ⟨k,l⟩:=p;rw [h1] at hv;simp only at hv;simp only;by_cases hk:4<k
    ·rw [if_neg (by omega)] at hv;rw [if_pos hk];exact (ZzX (ZfT (most:=40) hle2 hv.2)).symm
    ·rw [if_pos (by omega)] at hv;rw [if_neg hk,if_neg hc];have h2:=Zuc (most:=40) (k:=(rdV (c::b) (4:Nat) (ZzV c)).1) hle2 hv.2;rw [hv.1] at h2;have e1:ZzZ (c::b) (ZzV c)=rdBs (c::b) (40:Nat) k (rdV (c::b) (4:Nat) (ZzV c)).2:=by
      unfold ZzZ;rw [show rdV (c::b) 4 (ZzV c)=rdV (c::b) (4:Nat) (ZzV c) from rfl,hv.1];rfl
     cases h3:pb 40 k l with
     |none=>
      rw [h3] at h2;refine (ZzX ?_).symm;rw [e1];exact h2
     |some p=>
      obtain ⟨es,rest⟩:=p;rw [h3] at h2;simp only at h2;rw [e1,h2.1,Zz5 (Zud hle2) h2.2];cases rest with
      |nil=>rfl
      |cons x r=>rfl
  ·have hb:(ZzV c).2=true:=by
    simp only [ZzV,Bool.and_eq_true,decide_eq_true_eq];exact ⟨fun e=>hc (u8_eq.1 (by rw [e];rfl)),fun e=>hc2 (u8_eq.1 (by rw [e];rfl))⟩
   have hs:sfx (c::b) (ZzV c)=none:=by unfold sfx;rw [if_pos hb]
   rw [hs] at hv;simp only at hv;rw [if_pos ⟨hc,hc2⟩];exact (ZzX (ZfT (most:=40) hle2 hv.2)).symm
end Go.Rx

namespace Go.Rx
theorem ZAC {t:List UInt8} {m:Nat} {r:Nat×Bool}:(rdV t m r).1≤m:=by
 unfold rdV;split
 ·split
  ·exact Nat.zero_le _
  ·rename_i h;simp only at h ⊢;omega
 ·exact Nat.zero_le _
end Go.Rx

namespace Go.Rx
open Go
attribute [local irreducible] Req Way WayG Sel Z2 ZQ Zaz cVC Zai ZaO
theorem ci_in (n lo hi:Int):ZQ Go.Proofs.Tryz.prog 162 [.d (.int .i64 n),.d (.int .i64 lo),.d (.int .i64 hi)] [] [.dead,.dead,.dead] (.d (.bool (decide (lo≤n∧n≤hi)))) []:=by
 refine cof Go.Proofs.Tryz.func162 hr162 hl162 [false,false,false] ?_;simp -implicitDefEqProofs only [go_sem];refine ZlT (fun h1=>?_) (fun h1=>?_)
 ·simp -implicitDefEqProofs only [go_sem];simp [h1]
 ·simp -implicitDefEqProofs only [go_sem];simp [h1]
def ZAc (n lo hi:Int):=kf (ci_in n lo hi)
theorem ZAQ (t:List UInt8) (a:Int) (ht:t.length≤4611686018427387904):ZQ Go.Proofs.Tryz.prog 225 [.d (.str t),.d (.int .i64 a)] [] [.dead,.dead] (rvV (ZbF t a)) []:=by
 refine cof Go.Proofs.Tryz.func225 hr225 hl225 [false,false] ?_;simp -implicitDefEqProofs only [go_sem];refine ZAc _ _ _ rfl ?_;simp -implicitDefEqProofs only [go_sem];refine Zqp (fun h0=>?_) (fun h0=>?_)
 ·simp -implicitDefEqProofs only [go_sem];rw [ZbF,if_neg h0];rfl
 ·obtain ⟨a,rfl⟩:=Int.eq_ofNat_of_zero_le h0.1;simp -implicitDefEqProofs only [go_sem];refine ZY (α:=Nat×Nat) (fun x=>⟨[(0,.d (.str t)),(1,.d (.int .i64 a)),(7,.d (.int .i64 x.2)),(8,.d (.int .i64 x.1))],[]⟩)
   (fun x=>x.1≤5∧x.2<128 ^ x.1∧a+x.1≤t.length∧rvGo x.1 x.2 (t.drop (a+x.1))=rv (t.drop a)) (fun x=>5 - x.1) (0,0) rfl ⟨by omega,by simp,by omega,by simp [rv]⟩ ?_
  rintro ⟨k,n⟩ ⟨h1,h2,h3,h4⟩;simp only at h1 h2 h3 h4;have hadd:IntKind.i64.wrap ((a:Int)+(k:Int))=((a+k:Nat):Int):=by rw [Zad (by omega) (by omega)];omega
  simp -implicitDefEqProofs only [go_sem,hadd];refine ZlT (fun h5=>?_) (fun h5=>?_)
  ·simp -implicitDefEqProofs only [go_sem,hadd];refine Zfi (fun h6=>?_) (fun h6=>?_)
   ·obtain ⟨x,hx⟩:=Z3 h6;rw [ZbU hx] at h4;have hx0:=Zh7 x;have hp:128 ^ (k+1)≤128 ^ 5:=Nat.pow_le_pow_right (by omega) (by omega);have hp5:(128:Nat) ^ 5=34359738368:=by decide
    have hps:128 ^ (k+1)=128 ^ k*128:=Nat.pow_succ ..;have e0:IntKind.i64.wrap ((x.toNat:Nat):Int)=(x.toNat:Nat):=Zqn (by omega);have e1:=and64 (a:=x.toNat) (b:=127) (by omega) (by omega);rw [ZD4] at e1;have hm:x.toNat%128*128 ^ k≤127*128 ^ k:=Nat.mul_le_mul_right _ (by omega);have e2:=shl64 (a:=x.toNat%128) (k:=7*k) (by omega) (by rw [pow7];omega);have e3:=or64 (a:=n) (b:=x.toNat%128*2 ^ (7*k)) (by omega) (by rw [pow7];omega);rw [ZA5 (by rw [pow7];exact h2),pow7] at e3;rw [pow7] at e2;have e4:IntKind.i64.wrap (7*(k:Int))=((7*k:Nat):Int):=by rw [Zad (by omega) (by omega)];omega
    simp only [Int.cast_ofNat_Int] at e1 e2 e3;simp -implicitDefEqProofs only [go_sem,hadd,getD_some hx,e0,e1,e2,e3,e4];repeat ((first|refine rq ?_|fail);simp -implicitDefEqProofs only [go_sem,hadd,getD_some hx,e0,e1,e2,e3,e4])
    refine Zfi (fun h7=>?_) (fun h7=>?_)
    ·simp -implicitDefEqProofs only [go_sem];rw [rvGo,if_neg (by omega),if_pos (by omega)] at h4;refine ZP (k+1,n+x.toNat%128*128 ^ k) ?_ ⟨?_,?_,?_,?_⟩ ?_
     ·rw [ZV (by simp only [LEN];omega)]
     ·simp only;omega
     ·simp only;omega
     ·simp only;omega
     ·simp only;rw [←h4];congr 1
     ·simp only;omega
    ·simp -implicitDefEqProofs only [go_sem];rw [rvGo,if_neg (by omega),if_neg (by omega)] at h4;have hmod:x.toNat%128=x.toNat:=by omega
     rw [hmod];refine fork (fun h8=>?_) (fun h8=>?_)
     ·simp -implicitDefEqProofs only [go_sem];refine fork (fun h9=>?_) (fun h9=>?_)
      ·simp -implicitDefEqProofs only [go_sem];refine fork (fun h10=>?_) (fun h10=>?_)
       ·simp -implicitDefEqProofs only [go_sem];rw [if_pos (by omega)] at h4;rw [ZbF,if_pos h0,Int.toNat_natCast,←h4];rfl
       ·simp -implicitDefEqProofs only [go_sem];rw [if_neg (by omega)] at h4;rw [ZbF,if_pos h0,Int.toNat_natCast,←h4];have g1:IntKind.i64.wrap (((a+k:Nat):Int)+1)=((a+k+1:Nat):Int):=by rw [Zad (by omega) (by omega)];omega
        have g2:t.length - (t.length - (a+k+1))=a+k+1:=by omega
        simp only [Option.map_some,rvV,List.length_drop,hadd,g1,g2]
      ·simp -implicitDefEqProofs only [go_sem];rw [if_pos (by omega)] at h4;rw [ZbF,if_pos h0,Int.toNat_natCast,←h4];rfl
     ·simp -implicitDefEqProofs only [go_sem];refine fork (fun h10=>?_) (fun h10=>?_)
      ·simp -implicitDefEqProofs only [go_sem];rw [if_pos (by omega)] at h4;rw [ZbF,if_pos h0,Int.toNat_natCast,←h4];rfl
      ·simp -implicitDefEqProofs only [go_sem];rw [if_neg (by omega)] at h4;rw [ZbF,if_pos h0,Int.toNat_natCast,←h4];have g1:IntKind.i64.wrap (((a+k:Nat):Int)+1)=((a+k+1:Nat):Int):=by rw [Zad (by omega) (by omega)];omega
       have g2:t.length - (t.length - (a+k+1))=a+k+1:=by omega
       simp only [Option.map_some,rvV,List.length_drop,hadd,g1,g2]
   ·simp -implicitDefEqProofs only [go_sem];rw [List.drop_eq_nil_of_le (by omega)] at h4;rw [ZbF,if_pos h0,Int.toNat_natCast,←h4];rfl
  ·simp -implicitDefEqProofs only [go_sem];have:rvGo k n (t.drop (a+k))=none:=by
    cases t.drop (a+k) with
    |nil=>rfl
    |cons x l=>rw [rvGo,if_pos (by omega)]
   rw [this] at h4;rw [ZbF,if_pos h0,Int.toNat_natCast,←h4];rfl
theorem ZAe {h:Heap} {tb:Nat} {K:OK} {args:List V} {ls:List Nat} (t:List UInt8) (a:Int) (ht:t.length≤4611686018427387904) (hg:toDs h args=some ([.str t,.int .i64 a],ls)) (hfl:ZcQ (rvV (ZbF t a))∧ZhJ ([]))
  (hk:K (renV (bk tb ([])) (rvV (ZbF t a))) (updN tb ([]) ([]))):Z2 Go.Proofs.Tryz.prog h tb 225 args K:=
 ZcM hg (ZAQ t a ht) rfl (.inr hfl) hk
theorem ZAo (t:List UInt8) (a:Int) (ht:t.length≤4611686018427387904):ZQ Go.Proofs.Tryz.prog 226 [.d (.str t),.d (.int .i64 a)] [] [.dead,.dead] (rsV (ZbQ t a)) []:=by
 refine cof Go.Proofs.Tryz.func226 hr226 hl226 [false,false] ?_;simp -implicitDefEqProofs only [go_sem];refine ZAe t a ht rfl ⟨Zrc,Zd6⟩ ?_;rw [ZbQ];cases hv:ZbF t a with
 |none=>
  simp only [rvV];simp -implicitDefEqProofs only [go_sem];rfl
 |some p=>
  obtain ⟨n,b⟩:=p;obtain ⟨g1,g2,g3,g4⟩:=ZfR hv;have e1:IntKind.i64.wrap ((t.length:Int) - (b:Int))=((t.length - b:Nat):Int):=by rw [Zad (by omega) (by omega)];omega
  have e2:IntKind.i64.wrap ((b:Int)+(n:Int))=((b+n:Nat):Int):=by rw [Zad (by omega) (by omega)];omega
  simp only [rvV];simp -implicitDefEqProofs only [go_sem,e1,e2];refine fork (fun h1=>?_) (fun h1=>?_)
  ·simp -implicitDefEqProofs only [go_sem,e1,e2];refine fork (fun h2=>?_) (fun h2=>?_)
   ·simp -implicitDefEqProofs only [go_sem,e1,e2];rw [if_neg (by omega)];rfl
   ·simp -implicitDefEqProofs only [go_sem,e1,e2];repeat ((first|refine rq ?_|fail);simp -implicitDefEqProofs only [go_sem,e1,e2])
    rw [if_pos (by omega)];rfl
  ·simp -implicitDefEqProofs only [go_sem,e1,e2];rw [if_neg (by omega)];rfl
theorem ZAj {h:Heap} {tb:Nat} {K:OK} {args:List V} {ls:List Nat} (t:List UInt8) (a:Int) (ht:t.length≤4611686018427387904) (hg:toDs h args=some ([.str t,.int .i64 a],ls)) (hfl:ZcQ (rsV (ZbQ t a))∧ZhJ ([]))
  (hk:K (renV (bk tb ([])) (rsV (ZbQ t a))) (updN tb ([]) ([]))):Z2 Go.Proofs.Tryz.prog h tb 226 args K:=
 ZcM hg (ZAo t a ht) rfl (.inr hfl) hk
theorem ZAP (s:Nat) (t:List UInt8) (hs:s<4294967296) (ht:t.length≤LEN):ZQ Go.Proofs.Tryz.prog 267 [.d (.int .u32 s),.d (.str t)] [] [.dead,.dead] (.d (.int .u32 (Zep s t:Nat))) []:=by
 refine cof Go.Proofs.Tryz.func267 hr267 hl267 [false,false] ?_;simp -implicitDefEqProofs only [go_sem];refine ZY (α:=Nat) (fun i=>⟨[(0,.d (.int .u32 (Zep s (t.take i):Nat))),(1,.d (.str t)),(8,.d (.int .i64 t.length)),(9,.d (.int .i64 i))],[]⟩)
  (fun i=>i≤t.length) (fun i=>t.length - i) 0 rfl (Nat.zero_le _) ?_
 rintro i h1;simp -implicitDefEqProofs only [go_sem];refine fork (fun h2=>?_) (fun h2=>?_)
 ·obtain ⟨x,hx⟩:=Z3 h2;have hl:=ZhL (t:=t.take i) hs;have hb:=Zh7 x;have e1:=xor32 hl (b:=x.toNat) (by omega);have hx1:Zep s (t.take i) ^^^ x.toNat<4294967296:=Nat.xor_lt_two_pow (n:=32) hl (by omega);simp -implicitDefEqProofs only [go_sem,getD_some hx,Zqt,e1];repeat ((first|refine rq ?_|fail);simp -implicitDefEqProofs only [go_sem,getD_some hx,Zqt,e1])
  refine ZY (α:=Nat×Nat) (fun y=>⟨[(0,.d (.int .u32 y.2)),(1,.d (.str t)),(8,.d (.int .i64 t.length)),(9,.d (.int .i64 i)),(18,.d (.int .i64 y.1))],[]⟩)
   (fun y=>y.1≤8∧y.2<4294967296∧Zkc (8 - y.1) y.2=Zkb (Zep s (t.take i)) x.toNat) (fun y=>8 - y.1) (0,_) rfl ⟨by omega,hx1,rfl⟩ ?_
  rintro ⟨k,z⟩ ⟨g1,g2,g3⟩;simp only at g1 g2 g3;simp -implicitDefEqProofs only [go_sem];have c1:=and32 g2 (b:=1) (by omega);rw [and1n] at c1;have c2:=ZyM (a:=z) (k:=1) (by omega);have c3:=xor32 (a:=z / 2 ^ 1) (b:=3558460437) (by omega) (by omega);simp only [Int.cast_ofNat_Int,Int.natCast_one] at c1 c2 c3;refine fork (fun h3=>?_) (fun h3=>?_)
  ·have hk:8 - k=(8 - (k+1))+1:=by omega
   rw [hk,Zkc] at g3;simp -implicitDefEqProofs only [go_sem,c1,c2,c3];repeat ((first|refine rq ?_|fail);simp -implicitDefEqProofs only [go_sem,c1,c2,c3])
   have hz:=Zog g2;refine fork (fun h4=>?_) (fun h4=>?_)
   ·simp -implicitDefEqProofs only [go_sem,c3];rw [ZV (by simp only [LEN];omega)];refine ZP (k+1,Zkd z) ?_ ⟨by simp only;omega,hz,g3⟩ (by simp only;omega);rw [Zkd,if_pos (by omega)]
   ·simp -implicitDefEqProofs only [go_sem];rw [ZV (by simp only [LEN];omega)];refine ZP (k+1,Zkd z) ?_ ⟨by simp only;omega,hz,g3⟩ (by simp only;omega);rw [Zkd,if_neg (by omega)]
  ·simp -implicitDefEqProofs only [go_sem];obtain rfl:k=8:=by omega
   rw [ZV (by omega)];refine ZP (i+1) ?_ (by omega) (by omega);rw [ZmM hx,←g3];rfl
 ·simp -implicitDefEqProofs only [go_sem];rw [List.take_of_length_le (by omega)]
def ZAH (s:Nat) (t:List UInt8) (hs:s<4294967296) (ht:t.length≤LEN):=kf (ZAP s t hs ht)
theorem ZA9 (t:List UInt8) (ht:t.length≤LEN):ZQ Go.Proofs.Tryz.prog 229 [.d (.str t)] [] [.dead] (.d (.int .u32 (ZlZ t:Nat))) []:=by
 refine cof Go.Proofs.Tryz.func229 hr229 hl229 [false] ?_;simp -implicitDefEqProofs only [go_sem];refine ZAH 4294967295 t (by omega) ht rfl ?_;simp -implicitDefEqProofs only [go_sem];rfl
def ZA6 (t:List UInt8) (ht:t.length≤LEN):=kf (ZA9 t ht)
theorem ZBh (t:List UInt8) (ht:t.length≤LEN):ZQ Go.Proofs.Tryz.prog 164 [.d (.str t)] [] [.dead] (.d (.str (four (ZlZ t)))) []:=by
 refine cof Go.Proofs.Tryz.func164 hr164 hl164 [false] ?_;simp -implicitDefEqProofs only [go_sem];refine ZA6 t ht rfl ?_;obtain ⟨e1,e2,e3,e4⟩:=Zsp (Zqw (t:=t));simp -implicitDefEqProofs only [go_sem,e1,e2,e3,e4];repeat ((first|refine rq ?_|fail);simp -implicitDefEqProofs only [go_sem,e1,e2,e3,e4,Zxg,Zra,Zxh,Zrn,Zp0])
def ZBd (t:List UInt8) (ht:t.length≤LEN):=kf (ZBh t ht)
theorem ZAx (t:List UInt8) (ht:t.length≤4611686018427387904):ZQ Go.Proofs.Tryz.prog 154 [.d (.str t)] [] [.dead] (unV (ZbE t)) []:=by
 refine cof Go.Proofs.Tryz.func154 hr154 hl154 [false] ?_;simp -implicitDefEqProofs only [go_sem];have e1:IntKind.i64.wrap ((t.length:Int) - 4)=(t.length:Int) - 4:=Zad (by omega) (by omega);rw [e1];by_cases h1:0≤(t.length:Int) - 4∧(t.length:Int) - 4≤20000
 ·have d1:decide (0≤(t.length:Int) - 4∧(t.length:Int) - 4≤20000)=true:=decide_eq_true h1;have e2:((t.length:Int) - 4).toNat=t.length - 4:=by omega
  refine ZAc _ _ _ rfl ?_;simp -implicitDefEqProofs only [go_sem,d1,e2];repeat ((first|refine rq ?_|refine ZBd _ (by simp only [List.length_take,LEN];omega) rfl ?_|fail);simp -implicitDefEqProofs only [go_sem,d1,e2,List.take_length])
  refine fork (fun h2=>?_) (fun h2=>?_)
  ·simp -implicitDefEqProofs only [go_sem];rw [ZbE,if_neg (fun h=>h2 h.2.2)];rfl
  ·simp -implicitDefEqProofs only [go_sem];repeat ((first|refine rq ?_|fail);simp -implicitDefEqProofs only [go_sem,e2])
   rw [ZbE,if_pos ⟨by omega,by omega,h2⟩];rfl
 ·have d1:decide (0≤(t.length:Int) - 4∧(t.length:Int) - 4≤20000)=false:=decide_eq_false h1;refine ZAc _ _ _ rfl ?_;simp -implicitDefEqProofs only [go_sem,d1];repeat ((first|refine rq ?_|fail);simp -implicitDefEqProofs only [go_sem,d1])
  rw [ZbE,if_neg (by omega)];rfl
theorem ZAs {h:Heap} {tb:Nat} {K:OK} {args:List V} {ls:List Nat} (t:List UInt8) (ht:t.length≤4611686018427387904) (hg:toDs h args=some ([.str t],ls)) (hfl:ZcQ (unV (ZbE t))∧ZhJ ([]))
  (hk:K (renV (bk tb ([])) (unV (ZbE t))) (updN tb ([]) ([]))):Z2 Go.Proofs.Tryz.prog h tb 154 args K:=
 ZcM hg (ZAx t ht) rfl (.inr hfl) hk
theorem ZA0 (l:List (List UInt8)) (f:Nat) (cs:List D) (g:(List UInt8)→Bool) (hl:l.length≤LEN) (hf:∀p∈l,ZQ Go.Proofs.Tryz.prog f (.d (.str p)::cs.map .d) [] (.dead::cs.map fun _=> .dead) (.d (.bool (g p))) []):ZQ Go.Proofs.Tryz.prog 230 [.d (.sl (strs l)),.d (.clo f cs)] [] [.dead,.dead] (.d (.int .i64 (idxF g l))) []:=by
 refine cof Go.Proofs.Tryz.func230 hr230 hl230 [false,false] ?_;simp -implicitDefEqProofs only [go_sem];refine ZY (α:=Nat) (fun i=>⟨[(0,.d (.sl (strs l))),(1,.d (.clo f cs)),(7,.d (.int .i64 l.length)),(8,.d (.int .i64 i))],[]⟩)
  (fun i=>i≤l.length∧∀q∈l.take i,g q=false) (fun i=>l.length - i) 0 rfl ⟨Nat.zero_le _,by simp⟩ ?_
 rintro i ⟨h2,h3⟩;simp -implicitDefEqProofs only [go_sem];refine fork (fun h5=>?_) (fun h5=>?_)
 ·obtain ⟨p,hp⟩:=Z3 h5;have hmem:=List.mem_of_getElem? hp;simp -implicitDefEqProofs only [go_sem,ZM hp];repeat ((first|refine rq ?_|refine ZcM (xs:=(.str p)::cs) ZAf (hf p hmem) rfl (.inr ⟨Ze9 rfl,Zd6⟩) ?_|fail);simp -implicitDefEqProofs only [go_sem,ZM hp,ZbD.eq_1])
  cases hg:g p
  ·simp -implicitDefEqProofs only [go_sem];rw [ZV (by omega)];refine ZP (i+1) rfl ⟨by omega,fun q hq=>?_⟩ (by omega);rw [Z7 hp] at hq;rcases List.mem_append.1 hq with hq|hq
   ·exact h3 q hq
   ·simp at hq;subst hq;exact hg
  ·simp -implicitDefEqProofs only [go_sem];rw [Zu6 hp h3 hg]
 ·simp -implicitDefEqProofs only [go_sem];rw [List.take_of_length_le (by omega)] at h3;rw [Zu7 h3]
def ZAV (l:List (List UInt8)) (f:Nat) (cs:List D) (g:(List UInt8)→Bool) (hl:l.length≤LEN) (hf:∀p∈l,ZQ Go.Proofs.Tryz.prog f (.d (.str p)::cs.map .d) [] (.dead::cs.map fun _=> .dead) (.d (.bool (g p))) []):=kf (ZA0 l f cs g hl hf)
theorem ZA1 (l:List (List UInt8)) (f:Nat) (cs:List D) (g:(List UInt8)→Bool) (hl:l.length≤LEN) (hf:∀p∈l,ZQ Go.Proofs.Tryz.prog f (.d (.str p)::cs.map .d) [] (.dead::cs.map fun _=> .dead) (.d (.bool (g p))) []):ZQ Go.Proofs.Tryz.prog 166 [.d (.sl (strs l)),.d (.clo f cs)] [] [.dead,.dead] (.d (.bool (l.any g))) []:=by
 refine cof Go.Proofs.Tryz.func166 hr166 hl166 [false,false] ?_;simp -implicitDefEqProofs only [go_sem];refine ZAV l f cs g hl hf rfl ?_;simp -implicitDefEqProofs only [go_sem];rw [Zw7]
def ZAW (l:List (List UInt8)) (f:Nat) (cs:List D) (g:(List UInt8)→Bool) (hl:l.length≤LEN) (hf:∀p∈l,ZQ Go.Proofs.Tryz.prog f (.d (.str p)::cs.map .d) [] (.dead::cs.map fun _=> .dead) (.d (.bool (g p))) []):=kf (ZA1 l f cs g hl hf)
theorem ZAn (l:List (List UInt8)) (hl:l.length≤LEN):ZQ Go.Proofs.Tryz.prog 227 [.d (.sl (strs l))] [] [.dead] (.d (.bool (decide (ascK l)))) []:=by
 refine cof Go.Proofs.Tryz.func227 hr227 hl227 [false] ?_;simp -implicitDefEqProofs only [go_sem];refine ZY (α:=Nat) (fun i=>⟨[(0,.d (.sl (strs l))),(5,.d (.int .i64 l.length)),(6,.d (.int .i64 i))],[]⟩)
  (fun i=>i≤l.length∧ascK (l.take i)) (fun i=>l.length - i) 0 rfl ⟨Nat.zero_le _,by simp [ascK]⟩ ?_
 rintro i ⟨h2,h3⟩;simp -implicitDefEqProofs only [go_sem];refine fork (fun h5=>?_) (fun h5=>?_)
 ·obtain ⟨p,hp⟩:=Z3 h5;rcases Nat.eq_zero_or_pos i with hi|hi
  ·have hg:decide ((0:Int)<(i:Int))=false:=decide_eq_false (by omega);simp -implicitDefEqProofs only [go_sem,hg];repeat ((first|refine rq ?_|fail);simp -implicitDefEqProofs only [go_sem,hg])
   rw [ZV (by omega)];refine ZP (i+1) rfl ⟨by omega,?_⟩ (by omega);subst hi;rw [Z7 hp];simp [ascK]
  ·obtain ⟨j,rfl⟩:∃j,i=j+1:=⟨i - 1,by omega⟩;obtain ⟨q,hq⟩:=Z3 (l:=l) (i:=j) (by omega);have hg:decide ((0:Int)<((j+1:Nat):Int))=true:=decide_eq_true (by omega);have hj:IntKind.i64.wrap (((j+1:Nat):Int) - 1)=(j:Int):=by simp only [LEN] at hl;rw [Zad (by omega) (by omega)];omega
   simp -implicitDefEqProofs only [go_sem,hg,hj,ZM hp,ZM hq];repeat ((first|refine rq ?_|fail);simp -implicitDefEqProofs only [go_sem,hg,hj,ZM hp,ZM hq])
   cases hlt:Zax q p
   ·simp -implicitDefEqProofs only [go_sem];have:¬ascK l:=fun h=>by rw [Zmv h hq hp] at hlt;cases hlt
    simp [this]
   ·simp -implicitDefEqProofs only [go_sem];rw [ZV (by omega)];exact ZP (j+1+1) rfl ⟨by omega,Zkl h3 hq hp hlt⟩ (by omega)
 ·simp -implicitDefEqProofs only [go_sem];rw [List.take_of_length_le (by omega)] at h3;simp [h3]
def Zz0 (l:List (List UInt8)) (hl:l.length≤LEN):=kf (ZAn l hl)
theorem ZAL (s:List UInt8) (m:Int):ZQ Go.Proofs.Tryz.prog 266 [.d (.str s),.d (.ptr [.int .i64 m])] [] [.dead,.dead] (.d (.bool (decide (m<s.length)))) []:=by
 refine cof Go.Proofs.Tryz.func266 hr266 hl266 [false,false] ?_;simp -implicitDefEqProofs only [go_sem]
def Zz6 (l:List (List UInt8)) (m:Int):Bool:=l.any fun s=>decide (m<s.length)
theorem ZAY (l:List (List UInt8)) (m:Int) (hl:l.length≤LEN):ZQ Go.Proofs.Tryz.prog 228 [.d (.sl (strs l)),.d (.int .i64 m)] [] [.dead,.dead] (.d (.bool (Zz6 l m))) []:=by
 refine cof Go.Proofs.Tryz.func228 hr228 hl228 [false,false] ?_;simp -implicitDefEqProofs only [go_sem];refine ZAW l 266 [.ptr [.int .i64 m]] (fun s=>decide (m<s.length)) hl (fun p hp=>ZAL p m) rfl ?_;simp -implicitDefEqProofs only [go_sem];rfl
def Zz7 (l:List (List UInt8)) (m:Int) (hl:l.length≤LEN):=kf (ZAY l m hl)
theorem Zz1 {l:List (List UInt8)} {m:Int}:Zz6 l m=false↔∀s∈l,(s.length:Int)≤m:=by
 simp [Zz6]
theorem ZBa (l:List Int) (x:Int) (hl:l.length≤LEN):ZQ Go.Proofs.Tryz.prog 258 [.d (.sl (ints l)),.d (.int .i64 x)] [] [.dead,.dead] (.d (.int .i64 (idxF (fun y=>decide (x=y)) l))) []:=by
 refine cof Go.Proofs.Tryz.func258 hr258 hl258 [false,false] ?_;simp -implicitDefEqProofs only [go_sem];refine ZY (α:=Nat) (fun i=>⟨[(0,.d (.sl (ints l))),(1,.d (.int .i64 x)),(7,.d (.int .i64 l.length)),(8,.d (.int .i64 i))],[]⟩)
  (fun i=>i≤l.length∧∀q∈l.take i,decide (x=q)=false) (fun i=>l.length - i) 0 rfl ⟨Nat.zero_le _,by simp⟩ ?_
 rintro i ⟨h2,h3⟩;simp -implicitDefEqProofs only [go_sem];refine fork (fun h5=>?_) (fun h5=>?_)
 ·obtain ⟨p,hp⟩:=Z3 h5;simp -implicitDefEqProofs only [go_sem,ZO hp];repeat ((first|refine rq ?_|fail);simp -implicitDefEqProofs only [go_sem,ZO hp])
  refine fork (fun h6=>?_) (fun h6=>?_)
  ·simp -implicitDefEqProofs only [go_sem];rw [Zu6 hp h3 (by simpa using h6)]
  ·simp -implicitDefEqProofs only [go_sem];rw [ZV (by omega)];refine ZP (i+1) rfl ⟨by omega,fun q hq=>?_⟩ (by omega);rcases ZbG hp hq with hq|rfl
   ·exact h3 q hq
   ·simpa using h6
 ·simp -implicitDefEqProofs only [go_sem];rw [List.take_of_length_le (by omega)] at h3;rw [Zu7 h3]
def ZA7 (l:List Int) (x:Int) (hl:l.length≤LEN):=kf (ZBa l x hl)
theorem ZAA (l:List Int) (x:Int) (hl:l.length≤LEN):ZQ Go.Proofs.Tryz.prog 214 [.d (.sl (ints l)),.d (.int .i64 x)] [] [.dead,.dead] (.d (.bool (decide (x∈l)))) []:=by
 refine cof Go.Proofs.Tryz.func214 hr214 hl214 [false,false] ?_;simp -implicitDefEqProofs only [go_sem];refine ZA7 l x hl rfl ?_;simp -implicitDefEqProofs only [go_sem];rw [Zw7,ZBj];simp
def ZAb (l:List Int) (x:Int) (hl:l.length≤LEN):=kf (ZAA l x hl)
theorem ZA3 (n:Z1) (h1:n.Zj.length≤LEN) (h2:n.ZJ.length≤LEN) (h3:n.Zk.length≤LEN):ZQ Go.Proofs.Tryz.prog 157 [.d (.agg n.cells)] [] [.dead] (.d (.bool (decide (ZaA n)))) []:=by
 refine cof Go.Proofs.Tryz.func157 hr157 hl157 [false] ?_;simp -implicitDefEqProofs only [go_sem,Z1.cells];by_cases g1:(1:Int)≤n.Zj.length∧(n.Zj.length:Int)≤4
 ·by_cases g2:ascK n.Zj
  ·cases g3:Zz6 n.Zj 24
   ·have g3':=Zz1.1 g3;have d1:=decide_eq_true g1;have d2:=decide_eq_true g2;repeat ((first|refine ZAc _ _ _ rfl ?_|refine Zz0 n.Zj h1 rfl ?_|refine Zz7 n.Zj 24 h1 rfl ?_|refine rq ?_|fail);simp -implicitDefEqProofs only [go_sem,d1,d2,g3])
    cases hl:n.Zn
    ·have hiff:=Ze4 hl;simp -implicitDefEqProofs only [go_sem];refine ZY (α:=Nat) (fun i=>⟨[(1,.ref 0 0),(43,.d (.sl (ints n.Zk))),(44,.d (.int .i64 n.Zk.length)),(45,.d (.int .i64 i))],[(0,some (.box [.d (.bool false),.d (.sl (strs n.Zj)),.d (.sl (strs n.ZJ)),.d (.sl (ints n.Zk))]))]⟩)
      (fun i=>i≤n.Zk.length∧(∀k∈n.Zk.take i,2≤k∧k≤39)∧(n.Zk.take i).Nodup) (fun i=>n.Zk.length - i) 0 rfl ⟨Nat.zero_le _,by simp,by simp⟩ ?_
     rintro i ⟨i1,i2,i3⟩;simp -implicitDefEqProofs only [go_sem];refine fork (fun h5=>?_) (fun h5=>?_)
     ·obtain ⟨p,hp⟩:=Z3 h5;by_cases g4:2≤p∧p≤39
      ·have d4:=decide_eq_true g4;simp -implicitDefEqProofs only [go_sem,ZO hp];repeat ((first|refine ZAc _ _ _ rfl ?_|refine ZAb (n.Zk.take i) p (by simp only [List.length_take];omega) rfl ?_|refine rq ?_|fail);simp -implicitDefEqProofs only [go_sem,ZO hp,d4,ZnF])
       refine fork (fun g5=>?_) (fun g5=>?_)
       ·simp -implicitDefEqProofs only [go_sem];have:¬ZaA n:=fun h=>by
         have hnd:=(hiff.1 h).2.2.2.2.2.2;have:=List.Nodup.sublist (List.take_sublist (i+1) n.Zk) hnd;rw [Z7 hp] at this;exact (List.nodup_append.1 this).2.2 p g5 p (by simp) rfl
        simp [this]
       ·simp -implicitDefEqProofs only [go_sem];rw [ZV (by omega)];refine ZP (i+1) rfl ⟨by omega,fun k hk=>?_,Zk5 hp i3 g5⟩ (by omega);rcases ZbG hp hk with hk|rfl
        ·exact i2 k hk
        ·exact g4
      ·have d4:=decide_eq_false g4;simp -implicitDefEqProofs only [go_sem,ZO hp];repeat ((first|refine ZAc _ _ _ rfl ?_|refine rq ?_|fail);simp -implicitDefEqProofs only [go_sem,ZO hp,d4])
       have:¬ZaA n:=fun h=>g4 ((hiff.1 h).2.2.2.2.2.1 p (List.mem_of_getElem? hp))
       simp [this]
     ·simp -implicitDefEqProofs only [go_sem];rw [List.take_of_length_le (by omega)] at i2 i3;by_cases g6:(n.Zk.length:Int)=n.Zj.length
      ·have d6:=decide_eq_true g6;simp -implicitDefEqProofs only [go_sem,d6];have:decide (ZaA n)=decide ((n.ZJ.length:Int)=0):=decide_eq_decide.2 ⟨fun h=>by have:=(hiff.1 h).2.2.2.2.1;omega,fun h=>hiff.2 ⟨by omega,g2,fun k hk=>by have:=g3' k hk;omega,by omega,by omega,i2,i3⟩⟩;rw [this]
      ·have d6:=decide_eq_false g6;simp -implicitDefEqProofs only [go_sem,d6];have:¬ZaA n:=fun h=>g6 (by have:=(hiff.1 h).2.2.2.1;omega)
       simp [this]
    ·have hiff:=ZgD hl;simp -implicitDefEqProofs only [go_sem];by_cases g4:(n.ZJ.length:Int)=n.Zj.length
     ·have d4:=decide_eq_true g4;simp -implicitDefEqProofs only [go_sem,d4];refine Zz7 n.ZJ 24 h2 rfl ?_;cases g5:Zz6 n.ZJ 24
      ·have g5':=Zz1.1 g5;simp -implicitDefEqProofs only [go_sem];have:decide (ZaA n)=decide ((n.Zk.length:Int)=0):=decide_eq_decide.2 ⟨fun h=>by have:=(hiff.1 h).2.2.2.2.2;omega,fun h=>hiff.2 ⟨by omega,g2,fun k hk=>by have:=g3' k hk;omega,by omega,fun k hk=>by have:=g5' k hk;omega,by omega⟩⟩;rw [this]
      ·simp -implicitDefEqProofs only [go_sem];have:¬ZaA n:=fun h=>by
        have:Zz6 n.ZJ 24=false:=Zz1.2 fun k hk=>by have:=(hiff.1 h).2.2.2.2.1 k hk;omega
        rw [this] at g5;cases g5
       simp [this]
     ·have d4:=decide_eq_false g4;simp -implicitDefEqProofs only [go_sem,d4];have:¬ZaA n:=fun h=>g4 (by have:=(hiff.1 h).2.2.2.1;omega)
      simp [this]
   ·have d1:=decide_eq_true g1;have d2:=decide_eq_true g2;repeat ((first|refine ZAc _ _ _ rfl ?_|refine Zz0 n.Zj h1 rfl ?_|refine Zz7 n.Zj 24 h1 rfl ?_|refine rq ?_|fail);simp -implicitDefEqProofs only [go_sem,d1,d2,g3])
    have:¬ZaA n:=fun h=>by
     have:Zz6 n.Zj 24=false:=Zz1.2 fun k hk=>by have:=h.2.2.2.1 k hk;omega
     rw [this] at g3;cases g3
    simp [this]
  ·have d1:=decide_eq_true g1;have d2:=decide_eq_false g2;repeat ((first|refine ZAc _ _ _ rfl ?_|refine Zz0 n.Zj h1 rfl ?_|refine rq ?_|fail);simp -implicitDefEqProofs only [go_sem,d1,d2])
   have:¬ZaA n:=fun h=>g2 h.2.2.1
   simp [this]
 ·have d1:=decide_eq_false g1;repeat ((first|refine ZAc _ _ _ rfl ?_|refine rq ?_|fail);simp -implicitDefEqProofs only [go_sem,d1])
  have:¬ZaA n:=fun h=>g1 ⟨by have:=h.1;omega,by have:=h.2.1;omega⟩
  simp [this]
def ZAk (n:Z1) (h1:n.Zj.length≤LEN) (h2:n.ZJ.length≤LEN) (h3:n.Zk.length≤LEN):=kf (ZA3 n h1 h2 h3)
theorem ci_num (t:List UInt8) (m:Int) (r:Nat×Bool) (ht:t.length≤4611686018427387904):ZQ Go.Proofs.Tryz.prog 155 [.ref 0 0,.d (.int .i64 m)] [(0,.box [.d (.str t),.d (.int .i64 r.1),.d (.bool r.2)])] [.ref 0 0,.dead] (.d (.int .i64 (rdV t m r).1)) [(0,.box [.d (.str t),.d (.int .i64 (rdV t m r).2.1),.d (.bool (rdV t m r).2.2)])]:=by
 refine cof Go.Proofs.Tryz.func155 hr155 hl155 [true,false] ?_;simp -implicitDefEqProofs only [go_sem];refine ZAe t r.1 ht rfl ⟨Zrc,Zd6⟩ ?_;rw [rdV];obtain ⟨a,b⟩:=r;cases hv:ZbF t (a:Int) with
 |none=>
  simp only [rvV];simp -implicitDefEqProofs only [go_sem];repeat ((first|refine rq ?_|fail);simp -implicitDefEqProofs only [go_sem])
  cases b
  ·simp -implicitDefEqProofs only [go_sem];rfl
  ·simp -implicitDefEqProofs only [go_sem];rfl
 |some p=>
  obtain ⟨n,c⟩:=p;simp only [rvV];simp -implicitDefEqProofs only [go_sem];repeat ((first|refine rq ?_|fail);simp -implicitDefEqProofs only [go_sem])
  cases b
  ·simp -implicitDefEqProofs only [go_sem];refine fork (fun h1=>?_) (fun h1=>?_)
   ·simp -implicitDefEqProofs only [go_sem];rw [if_pos (.inr h1)];rfl
   ·simp -implicitDefEqProofs only [go_sem];rw [if_neg (fun h=>h.elim (fun h=>by cases h) h1)]
  ·simp -implicitDefEqProofs only [go_sem];simp
theorem ZAT {h:Heap} {tb:Nat} {K:OK} {n0:Nat} {rest:List V} {ls:List Nat} (t:List UInt8) (m:Int) (r:Nat×Bool) (ht:t.length≤4611686018427387904) (hn:h n0=some (.box [.d (.str t),.d (.int .i64 r.1),.d (.bool r.2)])) (hro:refO h n0=[n0]) (hr:toDs h rest=some ([.int .i64 m],ls)) (hnl:(ls:List Nat).contains n0=false)
  (hk:K (renV (bx n0 tb [(0,.box [.d (.str t),.d (.int .i64 (rdV t m r).2.1),.d (.bool (rdV t m r).2.2)])]) (.d (.int .i64 (rdV t m r).1))) ((bif false then (ls:List Nat).map (·,none) else [])++(n0,none)::updX n0 tb [(0,.box [.d (.str t),.d (.int .i64 (rdV t m r).2.1),.d (.bool (rdV t m r).2.2)])] [(0,.box [.d (.str t),.d (.int .i64 (rdV t m r).2.1),.d (.bool (rdV t m r).2.2)])])):Z2 Go.Proofs.Tryz.prog h tb 155 (.ref n0 0::rest) K:=
 Zbz false hn hro rfl hr hnl (ci_num t m r ht) rfl rfl (.inr (.inr ⟨Ze9 rfl,Zj3 rfl⟩)) hk
theorem ZBg (t:List UInt8) (r:Nat×Bool) (ht:t.length≤4611686018427387904):ZQ Go.Proofs.Tryz.prog 156 [.ref 0 0] [(0,.box [.d (.str t),.d (.int .i64 r.1),.d (.bool r.2)])] [.ref 0 0] (.d (.str (rdT t r).1)) [(0,.box [.d (.str t),.d (.int .i64 (rdT t r).2.1),.d (.bool (rdT t r).2.2)])]:=by
 refine cof Go.Proofs.Tryz.func156 hr156 hl156 [true] ?_;simp -implicitDefEqProofs only [go_sem];refine ZAj t r.1 ht rfl ⟨Zxi,Zd6⟩ ?_;rw [rdT];obtain ⟨a,b⟩:=r;cases hv:ZbQ t (a:Int) with
 |none=>
  simp only [rsV];simp -implicitDefEqProofs only [go_sem];repeat ((first|refine rq ?_|fail);simp -implicitDefEqProofs only [go_sem])
  cases b
  ·simp -implicitDefEqProofs only [go_sem]
  ·simp -implicitDefEqProofs only [go_sem]
 |some p=>
  obtain ⟨n,c⟩:=p;simp only [rsV];simp -implicitDefEqProofs only [go_sem];repeat ((first|refine rq ?_|fail);simp -implicitDefEqProofs only [go_sem])
  cases b
  ·simp -implicitDefEqProofs only [go_sem];simp
  ·simp -implicitDefEqProofs only [go_sem];simp
theorem ZAp {h:Heap} {tb:Nat} {K:OK} {n0:Nat} {rest:List V} {ls:List Nat} (t:List UInt8) (r:Nat×Bool) (ht:t.length≤4611686018427387904) (hn:h n0=some (.box [.d (.str t),.d (.int .i64 r.1),.d (.bool r.2)])) (hro:refO h n0=[n0]) (hr:toDs h rest=some ([],ls)) (hnl:(ls:List Nat).contains n0=false)
  (hk:K (renV (bx n0 tb [(0,.box [.d (.str t),.d (.int .i64 (rdT t r).2.1),.d (.bool (rdT t r).2.2)])]) (.d (.str (rdT t r).1))) ((bif false then (ls:List Nat).map (·,none) else [])++(n0,none)::updX n0 tb [(0,.box [.d (.str t),.d (.int .i64 (rdT t r).2.1),.d (.bool (rdT t r).2.2)])] [(0,.box [.d (.str t),.d (.int .i64 (rdT t r).2.1),.d (.bool (rdT t r).2.2)])])):Z2 Go.Proofs.Tryz.prog h tb 156 (.ref n0 0::rest) K:=
 Zbz false hn hro rfl hr hnl (ZBg t r ht) rfl rfl (.inr (.inr ⟨Ze9 rfl,Zj3 rfl⟩)) hk
theorem ZAz (t : List UInt8) (ht : t.length ≤ 4611686018427387904) : ZQ Go.Proofs.Tryz.prog 73 [.d (.str t)] [] [.dead] (ZyZ (ZaH t)) [] := by
  refine cofF Go.Proofs.Tryz.func73 hr73 hl73 ?_;simp -implicitDefEqProofs only [go_sem];refine ZAs t ht rfl ⟨Zrb, Zd6⟩ ?_;rw [ZaH];cases hu : ZbE t with
  | none =>
    simp only [unV];simp -implicitDefEqProofs only [go_sem];rfl
  | some s =>
    have hs : s.length ≤ 20000 := (ZcW.1 hu).1;simp only [unV];cases s with
    | nil =>
      simp -implicitDefEqProofs only [go_sem];rfl
    | cons c b =>
      have hne : decide (c :: b = []) = false := rfl;have hg : (c :: b).getD 0 0 = c := rfl;have hr0 : (decide (((c.toNat : Nat) : Int) = 108)) = decide (c = 108) := decide_eq_decide.2 ⟨fun h => u8_eq.1 ((show c.toNat = 108 by omega).trans rfl), fun h => by subst h; rfl⟩;rw [ZAg];by_cases hc : c = 108
      · have dc := decide_eq_true hc
        rw [if_pos hc];have hst : ZzV c = (1, false) := by subst hc; rfl
        simp -implicitDefEqProofs only [go_sem, hne, hg, hr0, dc, List.length_cons];repeat ((first | refine rq ?_ | refine ZAT (c :: b) 4 (1, false) (by omega) rfl rfl rfl rfl ?_ | fail); simp -implicitDefEqProofs only [go_sem, hne, hg, hr0, dc, List.length_cons])
        have hk4 : (rdV (c :: b) 4 (1, false)).1 ≤ 4 := ZAC (m := 4);rw [Zz3, hst];generalize hkr : rdV (c :: b) 4 (1, false) = kr at hk4 ⊢;obtain ⟨k, r1⟩ := kr;simp only at hk4 ⊢;refine ZY (α := Nat × List (List UInt8 × List UInt8) × (Nat × Bool)) (fun x => ⟨[(2, .ref 0 0), (4, .d (.str (c :: b))), (6, .ref 4 0), (7, .ref 8 0), (36, .d (.int .i64 k)), (37, .d (.int .i64 x.1))],
            [(0, some (.box [.d (.bool false), .own 1 0 0, .own 2 0 0, .own 3 0 0])), (1, some (.arr 1 [])), (2, some (.arr 1 [])), (3, some (.arr 1 [])),
             (4, some (.box [.d (.bool true), .own 5 0 (x.2.1.map (·.1)).length, .own 6 0 (x.2.1.map (·.2)).length, .own 7 0 0])), (5, some (.arr 1 (strs (x.2.1.map (·.1))))), (6, some (.arr 1 (strs (x.2.1.map (·.2))))), (7, some (.arr 1 [])),
             (8, some (.box [.d (.str (c :: b)), .d (.int .i64 x.2.2.1), .d (.bool x.2.2.2)]))]⟩)
          (fun x => x.1 ≤ k ∧ x.2 = rdLs (c :: b) x.1 r1) (fun x => k - x.1) (0, [], r1) rfl ⟨Nat.zero_le _, rfl⟩ ?_
        rintro ⟨i, es, r⟩ ⟨i1, i2⟩;simp only at i1 i2;have hlen : es.length = i := by have := ZqG (t := c :: b) (k := i) (r := r1); rw [← i2] at this; exact this
        simp -implicitDefEqProofs only [go_sem];refine fork (fun h5 => ?_) (fun h5 => ?_)
        · simp -implicitDefEqProofs only [go_sem]
          repeat ((first | refine rq ?_ | refine ZAp (c :: b) r (by omega) rfl rfl rfl rfl ?_ | refine ZAp (c :: b) (rdT (c :: b) r).2 (by omega) rfl rfl rfl rfl ?_ | fail); simp -implicitDefEqProofs only [go_sem])
          refine ZP (i + 1, es ++ [(rdL (c :: b) r).1], (rdL (c :: b) r).2) ?_ ⟨?_, ?_⟩ ?_
          · rw [ZV (by simp only [LEN]; omega)]
            simp [rdL]
          · simp only; omega
          · simp only; rw [Zjt, ← i2]
          · simp only; omega
        · obtain rfl : i = k := by omega
          have hle : r.1 ≤ (c :: b).length := by have := Zub (t := c :: b) (k := i) (r := r1) (by have := Zm6 (t := c :: b) (m := 4) (r := (1, false)) (by simp); rw [hkr] at this; exact this); rw [← i2] at this; exact this
          rw [← i2];simp -implicitDefEqProofs only [go_sem];cases hb : r.2
          · simp -implicitDefEqProofs only [go_sem, List.length_cons]
            by_cases he : (r.1 : Int) = ((b.length + 1 : Nat) : Int)
            · have de := decide_eq_true he
              simp -implicitDefEqProofs only [go_sem, de];refine ZAk (Zb1 es) (by simp [Zb1, LEN]; omega) (by simp [Zb1, LEN]; omega) (by simp [Zb1, LEN]) (ls := [5, 6, 7]) (by simp -implicitDefEqProofs only [go_sem]; first | done | rfl) ?_;by_cases hn : ZaA (Zb1 es)
              · have dn := decide_eq_true hn
                simp -implicitDefEqProofs only [go_sem, dn];rw [ZzY, if_pos ⟨hb, by simp only [List.length_cons]; omega, hn⟩];rfl
              · have dn := decide_eq_false hn
                simp -implicitDefEqProofs only [go_sem, dn];rw [ZzY, if_neg (fun h => hn h.2.2)];rfl
            · have de := decide_eq_false he
              simp -implicitDefEqProofs only [go_sem, de];rw [ZzY, if_neg (fun h => he (by have := h.2.1; simp only [List.length_cons] at this; omega))];rfl
          · simp -implicitDefEqProofs only [go_sem]
            rw [ZzY, if_neg (fun h => by rw [hb] at h; cases h.1)];rfl
      · have dc := decide_eq_false hc
        rw [if_neg hc];have hr9 : (decide (((c.toNat : Nat) : Int) = 98)) = decide (c.toNat = 98) := decide_eq_decide.2 (by omega);have hst : ZzV c = (1, !decide (c.toNat = 98)) := by
          have : decide (c.toNat ≠ 108) = true := decide_eq_true fun h => hc (u8_eq.1 (h.trans rfl))
          simp [ZzV, this]
        simp -implicitDefEqProofs only [go_sem, hne, hg, hr0, hr9, dc, List.length_cons];repeat ((first | refine rq ?_ | refine ZAT (c :: b) 4 (1, !decide (c.toNat = 98)) (by omega) rfl rfl rfl rfl ?_ | fail); simp -implicitDefEqProofs only [go_sem, hne, hg, hr0, hr9, dc, List.length_cons])
        have hk4 : (rdV (c :: b) 4 (1, !decide (c.toNat = 98))).1 ≤ 4 := ZAC (m := 4);rw [ZzZ, hst];generalize hkr : rdV (c :: b) 4 (1, !decide (c.toNat = 98)) = kr at hk4 ⊢;obtain ⟨k, r1⟩ := kr;simp only at hk4 ⊢;refine ZY (α := Nat × List (List UInt8 × Int) × (Nat × Bool)) (fun x => ⟨[(2, .ref 0 0), (4, .d (.str (c :: b))), (6, .ref 4 0), (7, .ref 8 0), (36, .d (.int .i64 k)), (37, .d (.int .i64 x.1))],
            [(0, some (.box [.d (.bool false), .own 1 0 0, .own 2 0 0, .own 3 0 0])), (1, some (.arr 1 [])), (2, some (.arr 1 [])), (3, some (.arr 1 [])),
             (4, some (.box [.d (.bool false), .own 5 0 (x.2.1.map (·.1)).length, .own 6 0 0, .own 7 0 (x.2.1.map (·.2)).length])), (5, some (.arr 1 (strs (x.2.1.map (·.1))))), (6, some (.arr 1 [])), (7, some (.arr 1 (ints (x.2.1.map (·.2))))),
             (8, some (.box [.d (.str (c :: b)), .d (.int .i64 x.2.2.1), .d (.bool x.2.2.2)]))]⟩)
          (fun x => x.1 ≤ k ∧ x.2 = rdBs (c :: b) 40 x.1 r1) (fun x => k - x.1) (0, [], r1) rfl ⟨Nat.zero_le _, rfl⟩ ?_
        rintro ⟨i, es, r⟩ ⟨i1, i2⟩;simp only at i1 i2;have hlen : es.length = i := by have := ZqH (t := c :: b) (most := 40) (k := i) (r := r1); rw [← i2] at this; exact this
        simp -implicitDefEqProofs only [go_sem];refine fork (fun h5 => ?_) (fun h5 => ?_)
        · simp -implicitDefEqProofs only [go_sem]
          repeat ((first | refine rq ?_ | refine ZAp (c :: b) r (by omega) rfl rfl rfl rfl ?_ | refine ZAT (c :: b) 40 (rdT (c :: b) r).2 (by omega) rfl rfl rfl rfl ?_ | fail); simp -implicitDefEqProofs only [go_sem])
          refine ZP (i + 1, es ++ [(rdB (c :: b) 40 r).1], (rdB (c :: b) 40 r).2) ?_ ⟨?_, ?_⟩ ?_
          · rw [ZV (by simp only [LEN]; omega)]
            simp [rdB]
          · simp only; omega
          · simp only; rw [Zju, ← i2]
          · simp only; omega
        · obtain rfl : i = k := by omega
          rw [← i2];simp -implicitDefEqProofs only [go_sem];cases hb : r.2
          · simp -implicitDefEqProofs only [go_sem, List.length_cons]
            by_cases he : (r.1 : Int) = ((b.length + 1 : Nat) : Int)
            · have de := decide_eq_true he
              simp -implicitDefEqProofs only [go_sem, de];refine ZAk (Z0 es) (by simp [Z0, LEN]; omega) (by simp [Z0, LEN]) (by simp [Z0, LEN]; omega) (ls := [5, 6, 7]) (by simp -implicitDefEqProofs only [go_sem]; first | done | rfl) ?_;by_cases hn : ZaA (Z0 es)
              · have dn := decide_eq_true hn
                simp -implicitDefEqProofs only [go_sem, dn];rw [ZzY, if_pos ⟨hb, by simp only [List.length_cons]; omega, hn⟩];rfl
              · have dn := decide_eq_false hn
                simp -implicitDefEqProofs only [go_sem, dn];rw [ZzY, if_neg (fun h => hn h.2.2)];rfl
            · have de := decide_eq_false he
              simp -implicitDefEqProofs only [go_sem, de];rw [ZzY, if_neg (fun h => he (by have := h.2.1; simp only [List.length_cons] at this; omega))];rfl
          · simp -implicitDefEqProofs only [go_sem]
            rw [ZzY, if_neg (fun h => by rw [hb] at h; cases h.1)];rfl
def ZAa (t:List UInt8) (ht:t.length≤4611686018427387904):=kf (ZAz t ht)
theorem ZAZ (d:ZT) (p:Int) (h1:d.Zv.length≤4611686018427387904):ZQ Go.Proofs.Tryz.prog 158 [.d (.agg d.cells),.d (.int .i64 p)] [] [.dead,.dead] (.d (.bool (decide (Za9 d p)))) []:=by
 refine cof Go.Proofs.Tryz.func158 hr158 hl158 [false,false] ?_;have e1:IntKind.i64.wrap ((d.Zv.length:Int) - 1)=(d.Zv.length:Int) - 1:=Zad (by omega) (by omega);simp -implicitDefEqProofs only [go_sem,ZT.cells,e1];refine ZAc p 0 ((d.Zv.length:Int) - 1) rfl ?_;simp -implicitDefEqProofs only [go_sem];rfl
def ZAU (d:ZT) (p:Int) (h1:d.Zv.length≤4611686018427387904):=kf (ZAZ d p h1)
theorem ZAy (d:ZT) (p:Int) (h1:d.Zv.length≤4611686018427387904) (h2:d.Zm.length≤4611686018427387904):ZQ Go.Proofs.Tryz.prog 74 [.d (.agg d.cells),.d (.int .i64 p)] [] [.dead,.dead] (.d (.str (ZU d p))) []:=by
 refine cof Go.Proofs.Tryz.func74 hr74 hl74 [false,false] ?_;have e1:IntKind.i64.wrap ((d.Zm.length:Int) - 1)=(d.Zm.length:Int) - 1:=Zad (by omega) (by omega);simp -implicitDefEqProofs only [go_sem,ZT.cells];refine ZAU d p h1 rfl ?_;by_cases hp:Za9 d p
 ·have dp:=decide_eq_true hp;have hp':=hp;obtain ⟨hp1,hp2⟩:=hp';simp -implicitDefEqProofs only [go_sem,dp,e1];refine ZY (α:=Int) (fun x=>⟨[(1,.d (.int .i64 p)),(2,.ref 0 0),(5,.d (.int .i64 x))],[(0,some (.box [.d (.sl (strs d.Zv)),.d (.sl (Zae d.Zm))]))]⟩)
   (fun x=> -1≤x∧x<d.Zm.length∧Zbi (d.Zm.take (x+1).toNat) p=Zbi d.Zm p) (fun x=>(x+1).toNat) ((d.Zm.length:Int) - 1) rfl ⟨by omega,by omega,?_⟩ ?_
  ·rw [List.take_of_length_le (by omega)]
  rintro x ⟨x1,x2,x3⟩;simp -implicitDefEqProofs only [go_sem];refine fork (fun h5=>?_) (fun h5=>?_)
  ·obtain ⟨i,rfl⟩:=Int.eq_ofNat_of_zero_le h5;obtain ⟨q,hq⟩:=Z3 (l:=d.Zm) (i:=i) (by omega);have e2:((i:Int)+1).toNat=i+1:=by omega
   rw [e2,ZuM hq] at x3;have e3:IntKind.i64.wrap ((i:Int) - 1)=(i:Int) - 1:=Zad (by omega) (by omega);simp -implicitDefEqProofs only [go_sem,ZaY hq,e3];repeat ((first|refine rq ?_|fail);simp -implicitDefEqProofs only [go_sem,ZaY hq,e3])
   refine fork (fun h6=>?_) (fun h6=>?_)
   ·simp -implicitDefEqProofs only [go_sem,ZaY hq];repeat ((first|refine rq ?_|fail);simp -implicitDefEqProofs only [go_sem,ZaY hq])
    rw [if_pos h6] at x3;rw [ZU,if_pos hp,←x3];rfl
   ·simp -implicitDefEqProofs only [go_sem];rw [if_neg h6] at x3;refine ZP ((i:Int) - 1) (by rw [e3]) ⟨by omega,by omega,?_⟩ (by omega);have e4:((i:Int) - 1+1).toNat=i:=by omega
    rw [e4];exact x3
  ·obtain rfl:x= -1:=by omega
   obtain ⟨s,hs⟩:=Z3 (l:=d.Zv) (i:=p.toNat) (by omega);simp -implicitDefEqProofs only [go_sem,ZM hs];repeat ((first|refine rq ?_|fail);simp -implicitDefEqProofs only [go_sem,ZM hs])
   have e4:((-1:Int)+1).toNat=0:=rfl;rw [e4,List.take_zero,Zdi] at x3;rw [ZU,if_pos hp,←x3,Option.getD_none,getD_some hs]
 ·have dp:=decide_eq_false hp;simp -implicitDefEqProofs only [go_sem,dp];rw [ZU,if_neg hp]
def Zz9 (d:ZT) (p:Int) (h1:d.Zv.length≤4611686018427387904) (h2:d.Zm.length≤4611686018427387904):=kf (ZAy d p h1 h2)
theorem ZAw (l:List Int) (hl:l.length≤2097152):ZQ Go.Proofs.Tryz.prog 175 [.d (.sl (ints l))] [] [.dead] (.own 0 0 l.length) [(0,.arr 1 (ints l))]:=by
 refine cof Go.Proofs.Tryz.func175 hr175 hl175 [false] ?_;simp -implicitDefEqProofs only [go_sem];intro b hb;refine way (fun h1=>?_) (fun h1=>?_)
 ·have hl0:l=[]:=by have:=hb h1;simpa [ints] using this
  subst hl0;simp -implicitDefEqProofs only [go_sem];rfl
 ·simp -implicitDefEqProofs only [go_sem];repeat ((first|refine rq ?_|fail);simp -implicitDefEqProofs only [go_sem])
def ZBe (l:List Int) (hl:l.length≤2097152):=kf (ZAw l hl)
theorem ZAu (l:List (List UInt8)) (hl:l.length≤1048576):ZQ Go.Proofs.Tryz.prog 170 [.d (.sl (strs l))] [] [.dead] (.own 0 0 l.length) [(0,.arr 1 (strs l))]:=by
 refine cof Go.Proofs.Tryz.func170 hr170 hl170 [false] ?_;simp -implicitDefEqProofs only [go_sem];intro b hb;refine way (fun h1=>?_) (fun h1=>?_)
 ·have hl0:l=[]:=by have:=hb h1;simpa [strs] using this
  subst hl0;simp -implicitDefEqProofs only [go_sem];rfl
 ·simp -implicitDefEqProofs only [go_sem];repeat ((first|refine rq ?_|fail);simp -implicitDefEqProofs only [go_sem])
def ZAq (l:List (List UInt8)) (hl:l.length≤1048576):=kf (ZAu l hl)
theorem ZAv (l:List GPut) (hl:l.length≤1048576):ZQ Go.Proofs.Tryz.prog 171 [.d (.sl (Zae l))] [] [.dead] (.own 0 0 l.length) [(0,.arr 2 (Zae l))]:=by
 refine cof Go.Proofs.Tryz.func171 hr171 hl171 [false] ?_;simp -implicitDefEqProofs only [go_sem];intro b hb;refine way (fun h1=>?_) (fun h1=>?_)
 ·have hl0:l=[]:=by have:=hb h1;simpa [Zae] using this
  subst hl0;simp -implicitDefEqProofs only [go_sem];rfl
 ·simp -implicitDefEqProofs only [go_sem];repeat ((first|refine rq ?_|fail);simp -implicitDefEqProofs only [go_sem])
def ZAr (l:List GPut) (hl:l.length≤1048576):=kf (ZAv l hl)
theorem ZAm (d:ZT) (hd:Zck d):ZQ Go.Proofs.Tryz.prog 89 [.d (.agg d.cells)] [] [.dead] (.agg [.own 0 0 d.Zv.length,.own 1 0 d.Zm.length]) [(0,.arr 1 (strs d.Zv)),(1,.arr 2 (Zae d.Zm))]:=by
 refine cof Go.Proofs.Tryz.func89 hr89 hl89 [false] ?_;obtain ⟨h1,h2⟩:=hd;simp -implicitDefEqProofs only [go_sem,ZT.cells];repeat ((first|refine ZAq d.Zv h1 rfl ?_|refine ZAr d.Zm h2 rfl ?_|refine rq ?_|fail);simp -implicitDefEqProofs only [go_sem])
def ZBc (d:ZT) (hd:Zck d):=kf (ZAm d hd)
end Go.Rx
