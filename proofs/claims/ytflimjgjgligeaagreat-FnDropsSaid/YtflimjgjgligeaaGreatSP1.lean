/-
  Part P1: lemmas on an evaluator over plain data of the model's code, plain laws on lists and numbers, or contracts of functions of the program; each lemma names its conditions.
-/
import Derived.Test.YtflimjgjgligeaaGreatSE6

set_option linter.unusedSimpArgs false
set_option linter.unusedVariables false
namespace Go.Rx
open Go
def varB (n:Nat):List UInt8:=
 if n<128 then [UInt8.ofNat n] else UInt8.ofNat (n%128+128)::varB (n / 128)
termination_by n
decreasing_by omega
theorem ZcU {n:Nat} (h:n<128):varB n=[UInt8.ofNat n]:=by rw [varB,if_pos h]
theorem ZiP {n:Nat} (h:¬n<128):varB n=UInt8.ofNat (n%128+128)::varB (n / 128):=by
 conv=>lhs;rw [varB]
 rw [if_neg h]
theorem ZtG {n:Nat}:varB n≠ []:=by rw [varB];split<;>simp
def rvGo:Nat→Nat→List UInt8→Option (Nat×List UInt8)
 |_,_,[]=>none
 |k,n,x::l=>if 5≤k then none else if 127<x.toNat then rvGo (k+1) (n+x.toNat%128*128 ^ k) l
   else if (x.toNat=0∧0<k)∨1000000000<n+x.toNat*128 ^ k then none else some (n+x.toNat*128 ^ k,l)
def rv (l:List UInt8):Option (Nat×List UInt8):=rvGo 0 0 l
theorem Zqv {n:Nat} (h:n<256):(UInt8.ofNat n).toNat=n:=by simp [Nat.mod_eq_of_lt h]
theorem ZqR {x:UInt8}:UInt8.ofNat x.toNat=x:=by simp
theorem Zh7 (x:UInt8):x.toNat<256:=x.toNat_lt
theorem Zqy (m p:Nat):m*p=m%128*p+m / 128*(p*128):=by
 conv=>lhs;rw [←Nat.mod_add_div m 128]
 rw [Nat.add_mul,Nat.mul_comm 128 (m / 128),Nat.mul_assoc,Nat.mul_comm 128 p]
theorem pow5 {k m p v n:Nat} (hp:p=128 ^ k) (hv:v=n+m*p) (hm:0<k→0<m) (h:v≤1000000000):k<5:=by
 refine Decidable.byContradiction fun hk=>?_;have h1:128 ^ 5≤128 ^ k:=Nat.pow_le_pow_right (by omega) (by omega);have h2:1*p≤m*p:=Nat.mul_le_mul_right p (hm (by omega));have h3:(128:Nat) ^ 5=34359738368:=by decide
 omega
theorem Zl3:∀ {l:List UInt8} {k n v:Nat} {rest:List UInt8},rvGo k n l=some (v,rest)↔v≤1000000000∧∃m,v=n+m*128 ^ k∧l=varB m++rest∧(0<k→0<m)
 |[],k,n,v,rest=>by
  simp only [rvGo];refine ⟨fun h=>(by cases h),fun h=>?_⟩;obtain ⟨_,m,_,h2,_⟩:=h;have:=congrArg List.length h2;have hne:=List.length_pos_iff.2 (ZtG (n:=m));simp at this;omega
 |x::l,k,n,v,rest=>by
  have hx:=Zh7 x;simp only [rvGo];constructor
  ·intro h;split at h
   ·cases h
   ·rename_i hk;split at h
    ·rename_i hb;obtain ⟨h1,m,h2,h3,h4⟩:=Zl3.1 h;have hm:=h4 (by omega);refine ⟨h1,x.toNat%128+128*m,?_,?_,fun _=>by omega⟩
     ·rw [h2,Zqy (x.toNat%128+128*m),Nat.pow_succ];have e1:(x.toNat%128+128*m)%128=x.toNat%128:=by omega
      have e2:(x.toNat%128+128*m) / 128=m:=by omega
      rw [e1,e2,Nat.add_assoc]
     ·rw [ZiP (by omega)];have e1:(x.toNat%128+128*m)%128+128=x.toNat:=by omega
      have e2:(x.toNat%128+128*m) / 128=m:=by omega
      rw [e1,e2,ZqR,h3];rfl
    ·rename_i hb;split at h
     ·cases h
     ·rename_i hc;simp only [Option.some.injEq,Prod.mk.injEq] at h;obtain ⟨rfl,rfl⟩:=h;exact ⟨by omega,x.toNat,rfl,by rw [ZcU (by omega),ZqR];rfl,fun h=>by omega⟩
  ·rintro ⟨h1,m,h2,h3,h4⟩;have hk:=pow5 rfl h2 h4 h1;rw [if_neg (by omega)];by_cases hm:m<128
   ·rw [ZcU hm] at h3;simp only [List.cons_append,List.nil_append,List.cons.injEq] at h3;obtain ⟨rfl,rfl⟩:=h3;rw [Zqv (by omega),if_neg (by omega),if_neg (by omega),h2]
   ·rw [ZiP hm] at h3;simp only [List.cons_append,List.cons.injEq] at h3;obtain ⟨rfl,rfl⟩:=h3;rw [Zqv (by omega),if_pos (by omega)];refine Zl3.2 ⟨h1,m / 128,?_,rfl,fun _=>by omega⟩;rw [h2,Zqy m,Nat.pow_succ];have e1:(m%128+128)%128=m%128:=by omega
    rw [e1,Nat.add_assoc]
theorem ZdW {l:List UInt8} {v:Nat} {rest:List UInt8}:rv l=some (v,rest)↔v≤1000000000∧l=varB v++rest:=by
 unfold rv;rw [Zl3];constructor
 ·rintro ⟨h1,m,h2,h3,_⟩;obtain rfl:v=m:=by simpa using h2
  exact ⟨h1,h3⟩
 ·rintro ⟨h1,h2⟩;exact ⟨h1,v,by simp,h2,fun h=>by omega⟩
def Zcj (s:List UInt8):List UInt8:=varB s.length++s
def rs (l:List UInt8):Option (List UInt8×List UInt8):=match rv l with
 |none=>none
 |some (n,r)=>if n≤20000∧n≤r.length then some (r.take n,r.drop n) else none
theorem Zg6 {l s rest:List UInt8}:rs l=some (s,rest)↔s.length≤20000∧l=Zcj s++rest:=by
 unfold rs;constructor
 ·intro h;split at h
  ·cases h
  ·rename_i n r hv;split at h
   ·rename_i hn;simp only [Option.some.injEq,Prod.mk.injEq] at h;obtain ⟨rfl,rfl⟩:=h;obtain ⟨_,h2⟩:=ZdW.1 hv;have e:(r.take n).length=n:=by simp;omega
    refine ⟨by omega,?_⟩;rw [Zcj,e,List.append_assoc,List.take_append_drop,h2]
   ·cases h
 ·rintro ⟨h1,rfl⟩;have:rv (Zcj s++rest)=some (s.length,s++rest):=ZdW.2 ⟨by omega,by rw [Zcj,List.append_assoc]⟩;rw [this];simp only;rw [if_pos ⟨h1,by simp⟩];simp
theorem ZeW {α:Type} {t l r:List α} {at_:Nat} (h:t.drop at_=l++r) (ha:at_≤t.length):r=t.drop (t.length - r.length)∧t.length - r.length=at_+l.length∧r.length≤t.length:=by
 have hl:=congrArg List.length h;simp only [List.length_drop,List.length_append] at hl;refine ⟨?_,by omega,by omega⟩;have e:t.length - r.length=at_+l.length:=by omega
 rw [e,←List.drop_drop,h,List.drop_left]
def ZbF (t:List UInt8) (at_:Int):Option (Nat×Nat):=
 if 0≤at_∧at_≤t.length then (rv (t.drop at_.toNat)).map fun r=>(r.1,t.length - r.2.length) else none
def ZbQ (t:List UInt8) (at_:Int):Option (List UInt8×Nat):=match ZbF t at_ with
 |none=>none
 |some (n,a)=>if n≤20000∧n≤t.length - a then some ((t.take (a+n)).drop a,a+n) else none
theorem Zfn {t:List UInt8} {a:Nat} {n b:Nat} (ha:a≤t.length):ZbF t a=some (n,b)↔n≤1000000000∧t.drop a=varB n++t.drop b∧b=a+(varB n).length∧b≤t.length:=by
 unfold ZbF;rw [if_pos (by omega),Int.toNat_natCast];constructor
 ·intro h;cases hv:rv (t.drop a) with
  |none=>rw [hv] at h;cases h
  |some r=>
   obtain ⟨m,r⟩:=r;rw [hv] at h;simp only [Option.map_some,Option.some.injEq,Prod.mk.injEq] at h;obtain ⟨rfl,rfl⟩:=h;obtain ⟨h1,h2⟩:=ZdW.1 hv;obtain ⟨h3,h4,h5⟩:=ZeW h2 ha;exact ⟨h1,by rw [←h3];exact h2,h4,by omega⟩
 ·rintro ⟨h1,h2,h3,h4⟩;rw [ZdW.2 ⟨h1,h2⟩];simp only [Option.map_some,List.length_drop,Option.some.injEq,Prod.mk.injEq,true_and];omega
theorem ZfR {t:List UInt8} {a:Int} {n b:Nat} (h:ZbF t a=some (n,b)):n≤1000000000∧b≤t.length∧a<b∧0≤a:=by
 have h0:=h;unfold ZbF at h0;split at h0
 ·rename_i hh;obtain ⟨a',rfl⟩:=Int.eq_ofNat_of_zero_le hh.1;obtain ⟨h1,h2,h3,h4⟩:=(Zfn (by omega)).1 h;have:=List.length_pos_iff.2 (ZtG (n:=n));omega
 ·cases h0
theorem Zgk {t:List UInt8} {a:Nat} {s:List UInt8} {b:Nat} (ha:a≤t.length):ZbQ t a=some (s,b)↔s.length≤20000∧t.drop a=Zcj s++t.drop b∧b=a+(Zcj s).length∧b≤t.length:=by
 unfold ZbQ;constructor
 ·intro h;split at h
  ·cases h
  ·rename_i n c hv;obtain ⟨h1,h2,h3,h4⟩:=(Zfn ha).1 hv;split at h
   ·rename_i hn;simp only [Option.some.injEq,Prod.mk.injEq] at h;obtain ⟨rfl,rfl⟩:=h;have hl:(List.drop c (List.take (c+n) t)).length=n:=by simp;omega
    refine ⟨by omega,?_,?_,by omega⟩
    ·rw [Zcj,hl,List.append_assoc,h2];congr 1;rw [List.drop_take,Nat.add_sub_cancel_left,←List.drop_drop,List.take_append_drop]
    ·rw [Zcj,hl,List.length_append,hl];omega
   ·cases h
 ·rintro ⟨h1,h2,h3,h4⟩;have hs:t.drop (a+(varB s.length).length)=s++t.drop b:=by
   rw [←List.drop_drop,h2,Zcj,List.append_assoc,List.drop_left]
  have hb:a+(varB s.length).length+s.length=b:=by rw [h3,Zcj,List.length_append];omega
  have:ZbF t a=some (s.length,a+(varB s.length).length):=(Zfn ha).2 ⟨by omega,by rw [hs,h2,Zcj,List.append_assoc],rfl,by omega⟩;rw [this];simp only;rw [if_pos (by omega)];simp only [Option.some.injEq,Prod.mk.injEq];refine ⟨?_,hb⟩;rw [List.drop_take,Nat.add_sub_cancel_left,hs,List.take_left]
theorem Zm4 {t:List UInt8} {a:Int} {s:List UInt8} {b:Nat} (h:ZbQ t a=some (s,b)):s.length≤20000∧b≤t.length∧a<b∧0≤a:=by
 unfold ZbQ at h;split at h
 ·cases h
 ·rename_i n c hv;obtain ⟨h1,h2,h3,h4⟩:=ZfR hv;split at h
  ·simp only [Option.some.injEq,Prod.mk.injEq] at h;obtain ⟨rfl,rfl⟩:=h;refine ⟨?_,by omega,by omega,h4⟩;simp;omega
  ·cases h
def Zkd (s:Nat):Nat:=if s%2=1 then (s / 2) ^^^ 3558460437 else s / 2
def Zkc:Nat→Nat→Nat
 |0,s=>s
 |k+1,s=>Zkc k (Zkd s)
def Zkb (s b:Nat):Nat:=Zkc 8 (s ^^^ b)
def Zep (s:Nat) (t:List UInt8):Nat:=t.foldl (fun s b=>Zkb s b.toNat) s
def ZlZ (t:List UInt8):Nat:=Zep 4294967295 t
theorem Zog {s:Nat} (h:s<4294967296):Zkd s<4294967296:=by
 unfold Zkd;split
 ·exact Nat.xor_lt_two_pow (n:=32) (by omega) (by omega)
 ·omega
theorem Zlz:∀ {k s:Nat},s<4294967296→Zkc k s<4294967296
 |0,_,h=>h
 |k+1,_,h=>Zlz (k:=k) (Zog h)
theorem ZsU {s b:Nat} (h:s<4294967296) (hb:b<256):Zkb s b<4294967296:=Zlz (Nat.xor_lt_two_pow (n:=32) (by omega) (by omega))
theorem ZhL:∀ {t:List UInt8} {s:Nat},s<4294967296→Zep s t<4294967296
 |[],s,h=>h
 |b::t,s,h=>by
  show Zep (Zkb s b.toNat) t<_;exact ZhL (ZsU h (Zh7 b))
theorem Zqw {t:List UInt8}:ZlZ t<4294967296:=ZhL (by omega)
theorem ZmM {s:Nat} {t:List UInt8} {i:Nat} {p:UInt8} (h:t[i]? =some p):Zep s (t.take (i+1))=Zkb (Zep s (t.take i)) p.toNat:=by
 rw [Z7 h];simp [Zep]
def four (n:Nat):List UInt8:=[UInt8.ofNat (n / 16777216),UInt8.ofNat (n / 65536),UInt8.ofNat (n / 256),UInt8.ofNat n]
theorem Zra {n:Nat}:(four n).length=4:=rfl
def Zgw (t:List UInt8):List UInt8:=t++four (ZlZ t)
theorem ZiS {t:List UInt8}:(Zgw t).length=t.length+4:=by simp [Zgw,four]
def ZbE (t:List UInt8):Option (List UInt8):=
 if 4≤t.length∧t.length - 4≤20000∧t.drop (t.length - 4)=four (ZlZ (t.take (t.length - 4))) then some (t.take (t.length - 4)) else none
theorem ZcW {t b:List UInt8}:ZbE t=some b↔b.length≤20000∧t=Zgw b:=by
 unfold ZbE;constructor
 ·intro h;split at h
  ·rename_i hh;obtain ⟨h1,h2,h3⟩:=hh;obtain rfl:=Option.some.inj h;refine ⟨by simp;omega,?_⟩;rw [Zgw,←h3,List.take_append_drop]
  ·cases h
 ·rintro ⟨h1,rfl⟩;have e:(Zgw b).length - 4=b.length:=by rw [ZiS];omega
  have e1:(Zgw b).take b.length=b:=by simp [Zgw]
  have e2:(Zgw b).drop b.length=four (ZlZ b):=by simp [Zgw]
  rw [e,e1,e2,if_pos ⟨by rw [ZiS];omega,h1,rfl⟩]
end Go.Rx
namespace Go.Rx
open Go
def ascK (l:List (List UInt8)):Prop:=l.Pairwise fun a b=>Zax a b=true
instance {l:List (List UInt8)}:Decidable (ascK l):=by unfold ascK;infer_instance
def ZaA (n:Z1):Prop:=
 1≤n.Zj.length∧n.Zj.length≤4∧ascK n.Zj∧(∀k∈n.Zj,k.length≤24)∧
 if n.Zn=true then n.ZJ.length=n.Zj.length∧(∀v∈n.ZJ,v.length≤24)∧n.Zk=[]
 else n.Zk.length=n.Zj.length∧n.ZJ=[]∧(∀k∈n.Zk,2≤k∧k≤39)∧n.Zk.Nodup
instance {n:Z1}:Decidable (ZaA n):=by unfold ZaA;infer_instance
def lent (e:List UInt8×List UInt8):List UInt8:=Zcj e.1++Zcj e.2
def bent (e:List UInt8×Int):List UInt8:=Zcj e.1++varB e.2.toNat
def Za1 (n:Z1):List UInt8:=
 (if n.Zn=true then 108 else 98)::(varB n.Zj.length++if n.Zn=true then (n.Zj.zip n.ZJ).flatMap lent else (n.Zj.zip n.Zk).flatMap bent)
def Zcf (n:Z1):List UInt8:=Zgw (Za1 n)
def pl:Nat→List UInt8→Option (List (List UInt8×List UInt8)×List UInt8)
 |0,l=>some ([],l)
 |k+1,l=>match rs l with
  |none=>none
  |some (key,l1)=>match rs l1 with
   |none=>none
   |some (v,l2)=>(pl k l2).map fun r=>((key,v)::r.1,r.2)
def pb (most:Nat):Nat→List UInt8→Option (List (List UInt8×Int)×List UInt8)
 |0,l=>some ([],l)
 |k+1,l=>match rs l with
  |none=>none
  |some (key,l1)=>match rv l1 with
   |none=>none
   |some (v,l2)=>if v≤most then (pb most k l2).map fun r=>((key,(v:Int))::r.1,r.2) else none
theorem ZqK:∀ {k:Nat} {l:List UInt8} {es:List (List UInt8×List UInt8)} {rest:List UInt8},pl k l=some (es,rest)↔
  es.length=k∧(∀e∈es,e.1.length≤20000∧e.2.length≤20000)∧l=es.flatMap lent++rest
 |0,l,es,rest=>by
  simp only [pl,Option.some.injEq,Prod.mk.injEq];constructor
  ·rintro ⟨rfl,rfl⟩;simp
  ·rintro ⟨h1,_,h3⟩;obtain rfl:=List.length_eq_zero_iff.1 h1;simpa using h3
 |k+1,l,es,rest=>by
  simp only [pl];constructor
  ·intro h;split at h
   ·cases h
   ·rename_i key l1 h1;split at h
    ·cases h
    ·rename_i v l2 h2;cases h3:pl k l2 with
     |none=>rw [h3] at h;cases h
     |some r=>
      obtain ⟨es',r⟩:=r;rw [h3] at h;simp only [Option.map_some,Option.some.injEq,Prod.mk.injEq] at h;obtain ⟨rfl,rfl⟩:=h;obtain ⟨g1,g2⟩:=Zg6.1 h1;obtain ⟨g3,g4⟩:=Zg6.1 h2;obtain ⟨g5,g6,g7⟩:=ZqK.1 h3;refine ⟨by simp [g5],?_,?_⟩
      ·intro e he;rcases List.mem_cons.1 he with rfl|he
       ·exact ⟨g1,g3⟩
       ·exact g6 e he
      ·rw [g2,g4,g7];simp [lent]
  ·rintro ⟨h1,h2,h3⟩;cases es with
   |nil=>simp at h1
   |cons e es=>
    obtain ⟨key,v⟩:=e;have he:=h2 (key,v) (by simp);rw [show rs l=some (key,Zcj v++(es.flatMap lent++rest)) from Zg6.2 ⟨he.1,by rw [h3];simp [lent]⟩];simp only;rw [show rs (Zcj v++(es.flatMap lent++rest))=some (v,es.flatMap lent++rest) from Zg6.2 ⟨he.2,rfl⟩];simp only;rw [show pl k (es.flatMap lent++rest)=some (es,rest) from ZqK.2 ⟨by simpa using h1,fun e he=>h2 e (by simp [he]),rfl⟩];rfl
theorem ZqL {most:Nat} (hm:most≤1000000000):∀ {k:Nat} {l:List UInt8} {es:List (List UInt8×Int)} {rest:List UInt8},pb most k l=some (es,rest)↔
  es.length=k∧(∀e∈es,e.1.length≤20000∧0≤e.2∧e.2≤most)∧l=es.flatMap bent++rest
 |0,l,es,rest=>by
  simp only [pb,Option.some.injEq,Prod.mk.injEq];constructor
  ·rintro ⟨rfl,rfl⟩;simp
  ·rintro ⟨h1,_,h3⟩;obtain rfl:=List.length_eq_zero_iff.1 h1;simpa using h3
 |k+1,l,es,rest=>by
  simp only [pb];constructor
  ·intro h;split at h
   ·cases h
   ·rename_i key l1 h1;split at h
    ·cases h
    ·rename_i v l2 h2;split at h
     ·rename_i hv;cases h3:pb most k l2 with
      |none=>rw [h3] at h;cases h
      |some r=>
       obtain ⟨es',r⟩:=r;rw [h3] at h;simp only [Option.map_some,Option.some.injEq,Prod.mk.injEq] at h;obtain ⟨rfl,rfl⟩:=h;obtain ⟨g1,g2⟩:=Zg6.1 h1;obtain ⟨g3,g4⟩:=ZdW.1 h2;obtain ⟨g5,g6,g7⟩:=(ZqL hm).1 h3;refine ⟨by simp [g5],?_,?_⟩
       ·intro e he;rcases List.mem_cons.1 he with rfl|he
        ·exact ⟨g1,by simp,by simp;omega⟩
        ·exact g6 e he
       ·rw [g2,g4,g7];simp [bent]
     ·cases h
  ·rintro ⟨h1,h2,h3⟩;cases es with
   |nil=>simp at h1
   |cons e es=>
    obtain ⟨key,v⟩:=e;have he:=h2 (key,v) (by simp);simp only at he;rw [show rs l=some (key,varB v.toNat++(es.flatMap bent++rest)) from Zg6.2 ⟨he.1,by rw [h3];simp [bent]⟩];simp only;rw [show rv (varB v.toNat++(es.flatMap bent++rest))=some (v.toNat,es.flatMap bent++rest) from ZdW.2 ⟨by omega,rfl⟩];simp only;rw [if_pos (by omega),show pb most k (es.flatMap bent++rest)=some (es,rest) from (ZqL hm).2 ⟨by simpa using h1,fun e he=>h2 e (by simp [he]),rfl⟩];simp;omega
def Zb1 (es:List (List UInt8×List UInt8)):Z1:=⟨true,es.map (·.1),es.map (·.2),[]⟩
def Z0 (es:List (List UInt8×Int)):Z1:=⟨false,es.map (·.1),[],es.map (·.2)⟩
def ZeG (c:UInt8) (b:List UInt8):Option Z1:=
 if c≠108∧c≠98 then none else
 match rv b with
 |none=>none
 |some (k,l)=>if 4<k then none else
  if c=108 then (match pl k l with
   |some (es,[])=>some (Zb1 es)
   |_=>none)
  else (match pb 40 k l with
   |some (es,[])=>some (Z0 es)
   |_=>none)
def ZfS:List UInt8→Option Z1
 |[]=>none
 |c::b=>match ZeG c b with
  |some n=>if ZaA n then some n else none
  |none=>none
def ZaH (t:List UInt8):Option Z1:=match ZbE t with
 |none=>none
 |some s=>ZfS s
theorem Zjc {α β:Type} (es:List (α×β)):(es.map (·.1)).zip (es.map (·.2))=es:=by
 induction es with
 |nil=>rfl
 |cons e es ih=>simp [ih]
theorem Zr5 {n:Z1} (h:n.ZJ.length=n.Zj.length) (h1:n.Zn=true) (h2:n.Zk=[]):Zb1 (n.Zj.zip n.ZJ)=n:=by
 obtain ⟨a,b,c,d⟩:=n;simp only at h h1 h2;subst h1;subst h2;simp only [Zb1];rw [List.map_fst_zip (by omega),List.map_snd_zip (by omega)]
theorem Zom {n:Z1} (h:n.Zk.length=n.Zj.length) (h1:¬n.Zn=true) (h2:n.ZJ=[]):Z0 (n.Zj.zip n.Zk)=n:=by
 obtain ⟨a,b,c,d⟩:=n;simp only at h h1 h2;subst h2;simp only [Z0];rw [List.map_fst_zip (by omega),List.map_snd_zip (by omega)];simp at h1;rw [h1]
theorem ZkF {es:List (List UInt8×List UInt8)}:Za1 (Zb1 es)=108::(varB es.length++es.flatMap lent):=by
 simp [Za1,Zb1,Zjc]
theorem ZiK {es:List (List UInt8×Int)}:Za1 (Z0 es)=98::(varB es.length++es.flatMap bent):=by
 simp [Za1,Z0,Zjc]
theorem Zjv {c:UInt8} {b:List UInt8} {n:Z1} (h:ZeG c b=some n):c::b=Za1 n:=by
 unfold ZeG at h;split at h
 ·cases h
 ·rename_i hc;split at h
  ·cases h
  ·rename_i k l hv;obtain ⟨_,hb⟩:=ZdW.1 hv;split at h
   ·cases h
   ·split at h
    ·rename_i h1;split at h
     ·rename_i es hp;obtain rfl:=Option.some.inj h;obtain ⟨g1,_,g3⟩:=ZqK.1 hp;rw [ZkF,g1,h1,hb,g3,List.append_nil]
     ·cases h
    ·rename_i h1;split at h
     ·rename_i es hp;obtain rfl:=Option.some.inj h;obtain ⟨g1,_,g3⟩:=(ZqL (by omega)).1 hp;have:c=98:=Decidable.byContradiction fun e=>hc ⟨h1,e⟩
      rw [ZiK,g1,this,hb,g3,List.append_nil]
     ·cases h
theorem Znp {n:Z1} (hn:ZaA n) (hl:n.Zn=true):
  Za1 n=108::(varB n.Zj.length++(n.Zj.zip n.ZJ).flatMap lent)∧
  rv (varB n.Zj.length++(n.Zj.zip n.ZJ).flatMap lent)=some (n.Zj.length,(n.Zj.zip n.ZJ).flatMap lent)∧
  pl n.Zj.length ((n.Zj.zip n.ZJ).flatMap lent)=some (n.Zj.zip n.ZJ,[])∧Zb1 (n.Zj.zip n.ZJ)=n:=by
 obtain ⟨h1,h2,h3,h4,h5⟩:=hn;rw [if_pos hl] at h5;refine ⟨by simp [Za1,hl],ZdW.2 ⟨by omega,rfl⟩,ZqK.2 ⟨by simp;omega,fun e he=>?_,by simp⟩,Zr5 h5.1 hl h5.2.2⟩;have g1:=h4 e.1 (List.of_mem_zip (a:=e.1) (b:=e.2) he).1;have g2:=h5.2.1 e.2 (List.of_mem_zip (a:=e.1) (b:=e.2) he).2;omega
theorem Zkh {n:Z1} (hn:ZaA n) (hl:¬n.Zn=true) {most:Nat} (hm:40≤most∧most≤1000000000):
  Za1 n=98::(varB n.Zj.length++(n.Zj.zip n.Zk).flatMap bent)∧
  rv (varB n.Zj.length++(n.Zj.zip n.Zk).flatMap bent)=some (n.Zj.length,(n.Zj.zip n.Zk).flatMap bent)∧
  pb most n.Zj.length ((n.Zj.zip n.Zk).flatMap bent)=some (n.Zj.zip n.Zk,[])∧Z0 (n.Zj.zip n.Zk)=n:=by
 obtain ⟨h1,h2,h3,h4,h5⟩:=hn;rw [if_neg hl] at h5;refine ⟨by simp only [Za1,if_neg hl],ZdW.2 ⟨by omega,rfl⟩,(ZqL hm.2).2 ⟨by simp;omega,fun e he=>?_,by simp⟩,Zom h5.1 hl h5.2.1⟩;have g1:=h4 e.1 (List.of_mem_zip (a:=e.1) (b:=e.2) he).1;have g2:=h5.2.2.1 e.2 (List.of_mem_zip (a:=e.1) (b:=e.2) he).2;omega
theorem Zii {s:List UInt8} {n:Z1}:ZfS s=some n↔ZaA n∧s=Za1 n:=by
 constructor
 ·intro h;cases s with
  |nil=>cases h
  |cons c b=>
   simp only [ZfS] at h;split at h
   ·rename_i m hp;split at h
    ·rename_i hm;obtain rfl:=Option.some.inj h;exact ⟨hm,Zjv hp⟩
    ·cases h
   ·cases h
 ·rintro ⟨hn,rfl⟩;have hk:n.Zj.length≤4:=hn.2.1;by_cases hl:n.Zn=true
  ·obtain ⟨g1,g2,g3,g4⟩:=Znp hn hl;rw [g1];simp only [ZfS,ZeG];rw [if_neg (by simp),g2];simp only;rw [if_neg (by omega),if_pos trivial,g3];simp only;rw [g4,if_pos hn]
  ·obtain ⟨g1,g2,g3,g4⟩:=Zkh hn hl (most:=40) (by omega);rw [g1];simp only [ZfS,ZeG];rw [if_neg (by simp),g2];simp only;rw [if_neg (by omega),if_neg (by decide),g3];simp only;rw [g4,if_pos hn]
theorem ZeC {s:List UInt8} (h:s.length≤24):(Zcj s).length≤25:=by
 rw [Zcj,ZcU (by omega)];simp;omega
theorem Zdd {n:Nat} (h:n<128):(varB n).length=1:=by rw [ZcU h];rfl
theorem ZgM {α:Type} {f:α→List UInt8} {m:Nat}:∀ {l:List α},(∀e∈l,(f e).length≤m)→(l.flatMap f).length≤l.length*m
 |[],_=>by simp
 |e::l,h=>by
  have h1:=ZgM (l:=l) (f:=f) (m:=m) fun e he=>h e (by simp [he])
  have h2:=h e (by simp);simp only [List.flatMap_cons,List.length_append,List.length_cons,Nat.succ_mul];omega
theorem ZdB {n:Z1} (hn:ZaA n):(Za1 n).length≤202:=by
 obtain ⟨h1,h2,h3,h4,h5⟩:=hn;unfold Za1;simp only [List.length_cons,List.length_append];rw [Zdd (by omega)];split at h5
 ·rename_i hl;rw [if_pos hl];have:((n.Zj.zip n.ZJ).flatMap lent).length≤(n.Zj.zip n.ZJ).length*50:=ZgM fun e he=>by
   have g1:=ZeC (h4 e.1 (List.of_mem_zip (a:=e.1) (b:=e.2) he).1);have g2:=ZeC (h5.2.1 e.2 (List.of_mem_zip (a:=e.1) (b:=e.2) he).2);simp only [lent,List.length_append];omega
  simp only [List.length_zip] at this;omega
 ·rename_i hl;rw [if_neg hl];have:((n.Zj.zip n.Zk).flatMap bent).length≤(n.Zj.zip n.Zk).length*50:=ZgM fun e he=>by
   have g1:=ZeC (h4 e.1 (List.of_mem_zip (a:=e.1) (b:=e.2) he).1);have g2:=h5.2.2.1 e.2 (List.of_mem_zip (a:=e.1) (b:=e.2) he).2;have g3:=Zdd (n:=e.2.toNat) (by omega);simp only [bent,List.length_append];omega
  simp only [List.length_zip] at this;omega
theorem Zb5 {t:List UInt8} {n:Z1}:ZaH t=some n↔ZaA n∧t=Zcf n:=by
 unfold ZaH;constructor
 ·intro h;split at h
  ·cases h
  ·rename_i s hs;obtain ⟨h1,h2⟩:=Zii.1 h;obtain ⟨_,h4⟩:=ZcW.1 hs;exact ⟨h1,by rw [h4,h2,Zcf]⟩
 ·rintro ⟨hn,rfl⟩;have hl:=ZdB hn;rw [show ZbE (Zcf n)=some (Za1 n) from ZcW.2 ⟨by omega,rfl⟩];exact Zii.2 ⟨hn,rfl⟩
def ZcJ (c:UInt8) (b:List UInt8):Option Z1:=match rv b with
 |none=>none
 |some (k,l)=>if c=108 then (pl (min k 10) l).map fun r=>Zb1 r.1 else (pb 1000000000 (min k 10) l).map fun r=>Z0 r.1
theorem ZwZ {t:List UInt8} {c:UInt8} {b:List UInt8} (hs:ZbE t=some (c::b)):
  ZaH t=match ZcJ c b with
   |none=>none
   |some n=>if ZaA n∧Zcf n=t then some n else none:=by
 have key:∀n,ZaH t=some n→ZcJ c b=some n:=by
  intro n hn;obtain ⟨h1,h2⟩:=Zb5.1 hn;obtain ⟨_,h4⟩:=ZcW.1 hs;have e:c::b=Za1 n:=by
   have hb:=ZdB h1;have:=(ZcW (t:=t) (b:=Za1 n)).2 ⟨by omega,h2⟩;rw [hs] at this;exact Option.some.inj this
  have hk:n.Zj.length≤4:=h1.2.1;by_cases hl:n.Zn=true
  ·obtain ⟨g1,g2,g3,g4⟩:=Znp h1 hl;rw [g1] at e;obtain ⟨rfl,rfl⟩:=List.cons.inj e;rw [ZcJ,g2];simp only;rw [if_pos trivial,Nat.min_eq_left (by omega),g3];simp [g4]
  ·obtain ⟨g1,g2,g3,g4⟩:=Zkh h1 hl (most:=1000000000) (by omega);rw [g1] at e;obtain ⟨rfl,rfl⟩:=List.cons.inj e;rw [ZcJ,g2];simp only;rw [if_neg (by decide),Nat.min_eq_left (by omega),g3];simp [g4]
 cases hr:ZaH t with
 |some n=>rw [key n hr];simp only;rw [if_pos];obtain ⟨h1,h2⟩:=Zb5.1 hr;exact ⟨h1,h2.symm⟩
 |none=>
  cases hl:ZcJ c b with
  |none=>rfl
  |some n=>
   simp only;rw [if_neg];rintro ⟨h1,h2⟩;rw [Zb5.2 ⟨h1,h2.symm⟩] at hr;cases hr
end Go.Rx
namespace Go.Rx
open Go
def Za9 (d:ZT) (p:Int):Prop:=0≤p∧p≤(d.Zv.length:Int) - 1
instance {d:ZT} {p:Int}:Decidable (Za9 d p):=by unfold Za9;infer_instance
def Zbi (l:List GPut) (p:Int):Option (List UInt8):=(l.reverse.find? fun q=>decide (q.Zu=p)).map (·.ZC)
theorem Zdi {p:Int}:Zbi [] p=none:=rfl
theorem Ze6 {l:List GPut} {q:GPut} {p:Int}:Zbi (l++[q]) p=if q.Zu=p then some q.ZC else Zbi l p:=by
 simp only [Zbi,List.reverse_append,List.reverse_cons,List.reverse_nil,List.nil_append,List.cons_append,List.find?_cons];by_cases h:q.Zu=p<;>simp [h]
def ZU (d:ZT) (p:Int):List UInt8:=if Za9 d p then (Zbi d.Zm p).getD (d.Zv.getD p.toNat []) else []
structure Tr where
 pages:List Int
 pairs:List ZR
 deeps:List Int
 order:Bool
 bad:Bool
 deriving Inhabited
def Tr.new:Tr:=⟨[],[],[],true,false⟩
def Tr.ord (t:Tr) (o:Bool):Tr:=⟨t.pages,t.pairs,t.deeps,o,t.bad⟩
def Zfq (e:List UInt8×List UInt8):ZR:=⟨e.1,e.2⟩
def Zaq (n:Z1):List ZR:=(n.Zj.zip n.ZJ).map Zfq
def Zq0 (l:List ZR) (k:List UInt8):Bool:=l.any fun p=>Zax p.Zi k
def ZuW (l:List ZR) (k:List UInt8):Bool:=l.any fun p=> !Zax p.Zi k
def Zpb (rec:Int→Tr→Tr) (first:Nat):List (List UInt8×Int)→Tr→Tr
 |[],t=>t
 |(k,c)::l,t=>
  if (rec c t).bad=true then rec c t else
  Zpb rec first l ((rec c t).ord ((rec c t).order&&(!Zq0 ((rec c t).pairs.drop t.pairs.length) k&& !ZuW (((rec c t).pairs.take t.pairs.length).drop first) k)))
def Zmm (d:ZT):Nat→Int→Tr→Tr
 |0,_,t=> {t with bad:=true}
 |f+1,page,t=>match ZaH (ZU d page) with
  |none=> {t with bad:=true}
  |some n=>if t.bad=true∨page∈t.pages then {t with bad:=true} else
   if n.Zn=true then {t with pages:=t.pages++[page],deeps:=t.deeps++[8 - (f:Int)],pairs:=t.pairs++Zaq n}
   else Zpb (Zmm d f) t.pairs.length (n.Zj.zip n.Zk) {t with pages:=t.pages++[page]}
def ZkR (d:ZT) (root:Int):Tr:=if root=0 then Tr.new else Zmm d 8 root Tr.new
def Zeo (d:ZT) (root:Int):Option (List ZR):=if (ZkR d root).bad=true then none else some (ZkR d root).pairs
structure Al where
 pairs:List ZR
 pages:List Int
 deeps:List Int
 bad:Bool
 loose:Bool
 deriving Inhabited
def Al.new:Al:=⟨[],[],[],false,false⟩
def ZjN (low high:List UInt8) (has:Bool):List (List UInt8×List UInt8)→Al→Al
 |[],a=>a
 |(k,v)::l,a=>ZjN low high has l {a with loose:=a.loose||(Zax k low||(has&& !Zax k high)),pairs:=a.pairs++[⟨k,v⟩]}
def lowS (low k:List UInt8):List UInt8:=if Zax low k=true then k else low
def capS (high:List UInt8) (has:Bool):List (List UInt8×Int)→Bool
 |(k2,_)::_=> !has||Zax k2 high
 |[]=>false
def Zd4 (high:List UInt8) (has:Bool) (l:List (List UInt8×Int)):List UInt8:=if capS high has l=true then (l.head?.map (·.1)).getD [] else high
def Zd0 (high:List UInt8) (has:Bool) (l:List (List UInt8×Int)):Bool:=if capS high has l=true then true else has
def Zge (rec:Int→List UInt8→List UInt8→Bool→Al→Al) (low high:List UInt8) (has:Bool):List (List UInt8×Int)→Al→Al
 |[],a=>a
 |(k,c)::l,a=>Zge rec low high has l (rec c (lowS low k) (Zd4 high has l) (Zd0 high has l) a)
def Zcr (d:ZT):Nat→Int→List UInt8→List UInt8→Bool→Al→Al
 |0,_,_,_,_,a=> {a with bad:=true}
 |f+1,page,low,high,has,a=>match ZaH (ZU d page) with
  |none=> {a with bad:=true}
  |some n=>if page∈a.pages∨a.bad=true then {a with bad:=true} else
   if n.Zn=true then
    {ZjN low high has (n.Zj.zip n.ZJ) {a with pages:=a.pages++[page]} with deeps:=(ZjN low high has (n.Zj.zip n.ZJ) {a with pages:=a.pages++[page]}).deeps++[7 - (f:Int)]}
   else Zge (Zcr d f) low high has (n.Zj.zip n.Zk) {a with pages:=a.pages++[page]}
def Zc1 (d:ZT) (root:Int):Al:=if root=0 then Al.new else Zcr d 8 root [] [] false Al.new
def Same (t:Tr) (a:Al):Prop:=t.bad=a.bad∧(a.bad=false→t.pages=a.pages∧t.pairs=a.pairs∧t.deeps=a.deeps.map (·+1))
theorem Zi0 {low high:List UInt8} {has:Bool}:∀ {l:List (List UInt8×List UInt8)} {a:Al},ZjN low high has l a=
  {a with pairs:=a.pairs++l.map Zfq,loose:=a.loose||l.any fun e=>Zax e.1 low||(has&& !Zax e.1 high)}
 |[],a=>by simp [ZjN]
 |(k,v)::l,a=>by
  rw [ZjN,Zi0];simp [Zfq,Bool.or_assoc]
theorem ZtE {d:ZT}:∀ {f:Nat} {page:Int} {low high:List UInt8} {has:Bool} {a:Al},a.bad=true→(Zcr d f page low high has a).bad=true
 |0,_,_,_,_,_,_=>rfl
 |f+1,page,low,high,has,a,h=>by
  rw [Zcr];split
  ·rfl
  ·rw [if_pos (.inr h)]
theorem ZnC {rec:Int→List UInt8→List UInt8→Bool→Al→Al} (hr:∀c lo hi has a,a.bad=true→(rec c lo hi has a).bad=true) {low high:List UInt8} {has:Bool}:
  ∀ {l:List (List UInt8×Int)} {a:Al},a.bad=true→(Zge rec low high has l a).bad=true
 |[],_,h=>h
 |(k,c)::l,a,h=>by rw [Zge];exact ZnC hr (hr _ _ _ _ _ h)
theorem Znz {rt:Int→Tr→Tr} {ra:Int→List UInt8→List UInt8→Bool→Al→Al} (hr:∀c lo hi has t a,Same t a→Same (rt c t) (ra c lo hi has a))
  (hb:∀c lo hi has a,a.bad=true→(ra c lo hi has a).bad=true) {first:Nat} {low high:List UInt8} {has:Bool}:
  ∀ {l:List (List UInt8×Int)} {t:Tr} {a:Al},Same t a→Same (Zpb rt first l t) (Zge ra low high has l a)
 |[],_,_,h=>h
 |(k,c)::l,t,a,h=>by
  rw [Zpb,Zge];have h1:=hr c (lowS low k) (Zd4 high has l) (Zd0 high has l) t a h;split
  ·rename_i hbad;have h2:(ra c (lowS low k) (Zd4 high has l) (Zd0 high has l) a).bad=true:=by rw [←h1.1];exact hbad
   have h3:=ZnC hb (low:=low) (high:=high) (has:=has) (l:=l) h2;exact ⟨by rw [hbad,h3],fun e=>by rw [h3] at e;cases e⟩
  ·exact Znz hr hb ⟨h1.1,h1.2⟩
theorem ZmF {d:ZT}:∀ {f:Nat} {page:Int} {low high:List UInt8} {has:Bool} {t:Tr} {a:Al},Same t a→Same (Zmm d f page t) (Zcr d f page low high has a)
 |0,_,_,_,_,_,_,_=>⟨rfl,fun e=>by cases e⟩
 |f+1,page,low,high,has,t,a,h=>by
  rw [Zmm,Zcr];cases hn:ZaH (ZU d page) with
  |none=>exact ⟨rfl,fun e=>by cases e⟩
  |some n=>
   simp only;by_cases hb:a.bad=true
   ·rw [if_pos (.inl (h.1.trans hb)),if_pos (.inr hb)];exact ⟨rfl,fun e=>by cases e⟩
   ·have hbf:a.bad=false:=by simpa using hb
    obtain ⟨e1,e2,e3⟩:=h.2 hbf;have htb:t.bad=false:=h.1.trans hbf;by_cases hp:page∈a.pages
    ·rw [if_pos (.inr (by rw [e1];exact hp)),if_pos (.inl hp)];exact ⟨rfl,fun e=>by cases e⟩
    ·rw [if_neg (c:=t.bad=true∨page∈t.pages) (by rw [htb,e1];simpa using hp),if_neg (c:=page∈a.pages∨a.bad=true) (by rw [hbf];simpa using hp)];split
     ·rw [Zi0];refine ⟨h.1,fun _=>⟨?_,?_,?_⟩⟩
      ·simp only;rw [e1]
      ·simp only [Zaq];rw [e2]
      ·simp only [List.map_append,List.map_cons,List.map_nil];rw [e3];congr 2;omega
     ·exact Znz (rt:=Zmm d f) (ra:=Zcr d f) (fun c lo hi hs t a h=>ZmF h) (fun c lo hi hs a h=>ZtE h) ⟨h.1,fun _=>⟨by rw [←e1],e2,e3⟩⟩
theorem ZuG {d:ZT} {root:Int}:Same (ZkR d root) (Zc1 d root):=by
 unfold ZkR Zc1;split
 ·exact ⟨rfl,fun _=>⟨rfl,rfl,rfl⟩⟩
 ·exact ZmF ⟨rfl,fun _=>⟨rfl,rfl,rfl⟩⟩
theorem Zmw {d:ZT} {root:Int}:Zeo d root=if (Zc1 d root).bad=true then none else some (Zc1 d root).pairs:=by
 have h:=ZuG (d:=d) (root:=root);unfold Zeo;rw [h.1];split
 ·rfl
 ·rename_i hb;rw [(h.2 (by simpa using hb)).2.1]
end Go.Rx
namespace Go.Rx
open Go
def Za5 (d:ZT):Prop:=
 4≤d.Zv.length∧d.Zv.length≤40∧d.Zm.length≤200∧(∀s∈d.Zv,s.length≤240)∧∀p∈d.Zm,Za9 d p.Zu∧p.ZC.length≤240
instance {d:ZT}:Decidable (Za5 d):=by unfold Za5;infer_instance
def Zak (d:ZT) (p:Int) (t:List UInt8):Option ZT:=
 if Za5 d∧Za9 d p∧t.length≤240∧d.Zm.length<200 then some {d with Zm:=d.Zm++[⟨p,t⟩]} else none
end Go.Rx
namespace Go.Rx
open Go
theorem Znf {w n:Nat}:BitVec.ofInt w (n:Int)=BitVec.ofNat w n:=BitVec.ofInt_natCast w n
theorem Zqn {n:Nat} (h:n<9223372036854775808):IntKind.i64.wrap (n:Int)=n:=Zad (by omega) (by omega)
theorem Ztu {n:Nat} (h:n<4294967296):IntKind.u32.wrap (n:Int)=n:=by
 simp [IntKind.wrap,IntKind.bits,IntKind.signed];omega
theorem wrap8 {n:Nat}:IntKind.u8.wrap (n:Int)=((n%256:Nat):Int):=by
 simp [IntKind.wrap,IntKind.bits,IntKind.signed]
theorem xor32 {a b:Nat} (ha:a<4294967296) (hb:b<4294967296):bXor .u32 (a:Int) (b:Int)=((a ^^^ b:Nat):Int):=by
 show IntKind.u32.wrap (((BitVec.ofInt 32 (a:Int) ^^^ BitVec.ofInt 32 (b:Int)).toNat:Nat):Int)=_;rw [Znf,Znf,BitVec.toNat_xor,BitVec.toNat_ofNat,BitVec.toNat_ofNat,Nat.mod_eq_of_lt (by omega),Nat.mod_eq_of_lt (by omega)];exact Ztu (Nat.xor_lt_two_pow (n:=32) ha hb)
theorem ZyM {a:Nat} {k:Nat} (hk:k≤32):bShr .u32 (a:Int) (k:Int)=((a / 2 ^ k:Nat):Int):=by
 show (a:Int).fdiv (2 ^ min ((k:Int).toNat) 32)=_;rw [Int.toNat_natCast,Nat.min_eq_left hk,Int.fdiv_eq_ediv_of_nonneg _ (by exact_mod_cast Nat.zero_le _)]
 norm_cast
theorem Zea {n:Nat}:[D.int .u8 (IntKind.u8.wrap (n:Int))]=ZaU (UInt8.ofNat n):=by
 rw [wrap8];simp [ZaU]
theorem ZpZ {x:UInt8}:ZhB (ZaU x)=x:=by simp [ZhB,ZaU]
theorem ZlG {l:List UInt8}:(l.map ZaU).map ZhB=l:=by
 rw [List.map_map]
 conv=>rhs;rw [←List.map_id l]
 exact List.map_congr_left fun x _=>ZpZ
theorem Zrn {l:List UInt8}:((bys l).map ZhB).map ZaU=bys l:=by rw [bys,ZlG]
theorem Zp0 {l:List UInt8}:(bys l).map ZhB=l:=ZlG
theorem getD_some {α:Type} {l:List α} {i:Nat} {p d:α} (h:l[i]? =some p):l.getD i d=p:=by simp [List.getD,h]
end Go.Rx
namespace Go.Rx
theorem Zqr:∀ {k n:Nat},n<128 ^ (k+1)→(varB n).length≤k+1
 |0,n,h=>by rw [ZcU (by omega)];simp
 |k+1,n,h=>by
  by_cases hn:n<128
  ·rw [ZcU hn];simp
  ·rw [ZiP hn,List.length_cons];have:=Zqr (k:=k) (n:=n / 128) (Nat.div_lt_of_lt_mul (by rw [Nat.pow_succ,Nat.mul_comm] at h;exact h));omega
theorem ZdR {n:Nat} (h:n<9223372036854775808):(varB n).length≤9:=Zqr (k:=8) (by omega)
theorem ZtF {out:List UInt8} {m:Nat} (h:¬m<128):(out++[UInt8.ofNat ((m%128)+128)])++varB (m / 128)=out++varB m:=by
 rw [ZiP h];simp
end Go.Rx
namespace Go.Rx
theorem ZvQ {l:List UInt8}:(l.map ZaU)=bys l:=rfl
end Go.Rx
namespace Go.Rx
attribute [go_sem] ZvQ Zp0 Zea
end Go.Rx
namespace Go.Rx
theorem ZtQ (n:Nat):Int.toNat (OfNat.ofNat n)=OfNat.ofNat n:=rfl
attribute [go_sem] Int.toNat_zero ZtQ
end Go.Rx
namespace Go.Rx
def idxF {α:Type} (g:α→Bool) (l:List α):Int:=match l.findIdx? g with|some i=>(i:Int)|none=> -1
theorem Zu7 {α:Type} {g:α→Bool} {l:List α} (h:∀q∈l,g q=false):idxF g l= -1:=by
 have:l.findIdx? g=none:=by rw [List.findIdx?_eq_none_iff];exact h
 rw [idxF,this]
theorem Zu6 {α:Type} {g:α→Bool} {l:List α} {i:Nat} {p:α} (hp:l[i]? =some p) (h:∀q∈l.take i,g q=false) (hg:g p=true):idxF g l=i:=by
 obtain ⟨hi,hpe⟩:=List.getElem?_eq_some_iff.1 hp;have:l.findIdx? g=some i:=by
  rw [List.findIdx?_eq_some_iff_getElem];refine ⟨hi,by rw [hpe];exact hg,fun j hj=>?_⟩;have:=h l[j] (by rw [List.mem_take_iff_getElem];exact ⟨j,by omega,rfl⟩);simp [this]
 rw [idxF,this]
theorem Zw7 {α:Type} {g:α→Bool} {l:List α}:decide (0≤idxF g l)=l.any g:=by
 unfold idxF;cases h:l.findIdx? g with
 |none=>
  rw [List.findIdx?_eq_none_iff] at h;have:l.any g=false:=by rw [List.any_eq_false];intro x hx;simp [h x hx]
  rw [this];simp
 |some i=>
  rw [List.findIdx?_eq_some_iff_getElem] at h;obtain ⟨hi,hg,_⟩:=h;have:l.any g=true:=List.any_eq_true.2 ⟨l[i],List.getElem_mem hi,hg⟩;rw [this];simp
theorem Zmv {l:List (List UInt8)} {i:Nat} {p q:List UInt8} (h:ascK l) (hp:l[i]? =some p) (hq:l[i+1]? =some q):Zax p q=true:=by
 obtain ⟨h1,e1⟩:=List.getElem?_eq_some_iff.1 hp;obtain ⟨h2,e2⟩:=List.getElem?_eq_some_iff.1 hq;have:=List.pairwise_iff_getElem.1 h i (i+1) h1 h2 (by omega);rw [e1,e2] at this;exact this
end Go.Rx
namespace Go.Rx
theorem Zkl {l:List (List UInt8)} {i:Nat} {p q:List UInt8} (h:ascK (l.take (i+1))) (hp:l[i]? =some p) (hq:l[i+1]? =some q) (hlt:Zax p q=true):ascK (l.take (i+2)):=by
 rw [Z7 hq];refine List.pairwise_append.2 ⟨h,by simp,fun a ha b hb=>?_⟩;simp at hb;subst hb;rw [Z7 hp] at ha h;rcases List.mem_append.1 ha with ha|ha
 ·exact Zfc ((List.pairwise_append.1 h).2.2 a ha p (by simp)) hlt
 ·simp at ha;subst ha;exact hlt
theorem ZgD {n:Z1} (h:n.Zn=true):ZaA n↔(1≤n.Zj.length∧n.Zj.length≤4)∧ascK n.Zj∧(∀k∈n.Zj,k.length≤24)∧n.ZJ.length=n.Zj.length∧(∀v∈n.ZJ,v.length≤24)∧n.Zk.length=0:=by
 simp only [ZaA,h,if_true,List.length_eq_zero_iff,and_assoc]
theorem Ze4 {n:Z1} (h:n.Zn=false):ZaA n↔(1≤n.Zj.length∧n.Zj.length≤4)∧ascK n.Zj∧(∀k∈n.Zj,k.length≤24)∧n.Zk.length=n.Zj.length∧n.ZJ.length=0∧(∀k∈n.Zk,2≤k∧k≤39)∧n.Zk.Nodup:=by
 simp [ZaA,h,List.length_eq_zero_iff,and_assoc]
theorem Zk5 {α:Type} {l:List α} {i:Nat} {p:α} (h:l[i]? =some p) (hn:(l.take i).Nodup) (hp:p∉l.take i):(l.take (i+1)).Nodup:=by
 rw [Z7 h];exact List.nodup_append.2 ⟨hn,by simp,fun a ha b hb=>by simp at hb;subst hb;exact fun e=>hp (e▸ha)⟩
theorem ZbG {α:Type} {l:List α} {i:Nat} {p q:α} (h:l[i]? =some p) (hq:q∈l.take (i+1)):q∈l.take i∨q=p:=by
 rw [Z7 h] at hq;simpa using hq
end Go.Rx
namespace Go.Rx
theorem Zfg {α β:Type} {l:List α} {m:List β} {i:Nat} {p:α} {q:β} (hp:l[i]? =some p) (hq:m[i]? =some q):(l.zip m)[i]? =some (p,q):=by
 rw [List.getElem?_zip_eq_some];exact ⟨hp,hq⟩
end Go.Rx
namespace Go.Rx
open Go
def rdV (t:List UInt8) (most:Int) (r:Nat×Bool):Nat×(Nat×Bool):=match ZbF t r.1 with
 |some (n,a)=>if r.2=true∨most<n then (0,(r.1,true)) else (n,(a,false))
 |none=>(0,(r.1,true))
def rdT (t:List UInt8) (r:Nat×Bool):List UInt8×(Nat×Bool):=match ZbQ t r.1 with
 |some (s,a)=>if r.2=true then ([],(r.1,true)) else (s,(a,false))
 |none=>([],(r.1,true))
def sfx (t:List UInt8) (r:Nat×Bool):Option (List UInt8):=if r.2=true then none else some (t.drop r.1)
theorem Zm6 {t:List UInt8} {m:Int} {r:Nat×Bool} (h:r.1≤t.length):(rdV t m r).2.1≤t.length:=by
 unfold rdV;split
 ·rename_i n a hv;split
  ·exact h
  ·exact (ZfR hv).2.1
 ·exact h
theorem Zjs {t:List UInt8} {r:Nat×Bool} (h:r.1≤t.length):(rdT t r).2.1≤t.length:=by
 unfold rdT;split
 ·rename_i n a hv;split
  ·exact h
  ·exact (Zm4 hv).2.1
 ·exact h
theorem Zjr {t:List UInt8} {most:Nat} {r:Nat×Bool} (h:r.1≤t.length):match sfx t r with
  |none=>(rdV t most r).1=0∧sfx t (rdV t most r).2=none
  |some l=>match rv l with
   |none=>(rdV t most r).1=0∧sfx t (rdV t most r).2=none
   |some (n,l2)=>if n≤most then (rdV t most r).1=n∧sfx t (rdV t most r).2=some l2 else (rdV t most r).1=0∧sfx t (rdV t most r).2=none:=by
 obtain ⟨a,b⟩:=r;simp only at h;have hs:ZbF t (a:Int)=(rv (t.drop a)).map fun r=>(r.1,t.length - r.2.length):=by
  unfold ZbF;rw [if_pos (by omega),Int.toNat_natCast]
 unfold sfx rdV;simp only;rw [hs];cases b with
 |true=>
  simp only [if_true];cases rv (t.drop a) with
  |none=>exact ⟨rfl,rfl⟩
  |some p=>exact ⟨by simp,by simp⟩
 |false=>
  simp only [Bool.false_eq_true,if_false,false_or];cases hv:rv (t.drop a) with
  |none=>exact ⟨rfl,rfl⟩
  |some p=>
   obtain ⟨n,l2⟩:=p;simp only [Option.map_some];obtain ⟨_,h2⟩:=ZdW.1 hv;obtain ⟨h3,_,_⟩:=ZeW h2 h;by_cases hn:n≤most
   ·rw [if_pos hn,if_neg (by omega)];exact ⟨rfl,by simp only [Bool.false_eq_true,if_false];rw [←h3]⟩
   ·rw [if_neg hn,if_pos (by omega)];exact ⟨rfl,rfl⟩
theorem ZhQ {t:List UInt8} {r:Nat×Bool} (h:r.1≤t.length):match sfx t r with
  |none=>(rdT t r).1=[]∧sfx t (rdT t r).2=none
  |some l=>match rs l with
   |none=>(rdT t r).1=[]∧sfx t (rdT t r).2=none
   |some (s,l2)=>(rdT t r).1=s∧sfx t (rdT t r).2=some l2:=by
 obtain ⟨a,b⟩:=r;simp only at h;have hs:ZbQ t (a:Int)=(rs (t.drop a)).map fun p=>(p.1,t.length - p.2.length):=by
  cases hv:rs (t.drop a) with
  |some p=>
   obtain ⟨s,l2⟩:=p;obtain ⟨h1,h2⟩:=Zg6.1 hv;obtain ⟨h3,h4,h5⟩:=ZeW h2 h;exact (Zgk h).2 ⟨h1,by rw [←h3];exact h2,h4,by simp only;omega⟩
  |none=>
   cases hr:ZbQ t (a:Int) with
   |none=>rfl
   |some p=>
    obtain ⟨s,b⟩:=p;obtain ⟨h1,h2,_,_⟩:=(Zgk h).1 hr;rw [Zg6.2 ⟨h1,h2⟩] at hv;cases hv
 unfold sfx rdT;simp only;rw [hs];cases b with
 |true=>
  simp only [if_true];cases rs (t.drop a) with
  |none=>exact ⟨rfl,rfl⟩
  |some p=>exact ⟨rfl,rfl⟩
 |false=>
  simp only [Bool.false_eq_true,if_false];cases hv:rs (t.drop a) with
  |none=>exact ⟨rfl,rfl⟩
  |some p=>
   obtain ⟨s,l2⟩:=p;obtain ⟨_,h2⟩:=Zg6.1 hv;obtain ⟨h3,_,_⟩:=ZeW h2 h;exact ⟨rfl,by simp only [Option.map_some,Bool.false_eq_true,if_false];rw [←h3]⟩
def rdL (t:List UInt8) (r:Nat×Bool):(List UInt8×List UInt8)×(Nat×Bool):=(((rdT t r).1,(rdT t (rdT t r).2).1),(rdT t (rdT t r).2).2)
def rdB (t:List UInt8) (most:Int) (r:Nat×Bool):(List UInt8×Int)×(Nat×Bool):=(((rdT t r).1,((rdV t most (rdT t r).2).1:Int)),(rdV t most (rdT t r).2).2)
def rdLs (t:List UInt8):Nat→Nat×Bool→List (List UInt8×List UInt8)×(Nat×Bool)
 |0,r=>([],r)
 |k+1,r=>((rdL t r).1::(rdLs t k (rdL t r).2).1,(rdLs t k (rdL t r).2).2)
def rdBs (t:List UInt8) (most:Int):Nat→Nat×Bool→List (List UInt8×Int)×(Nat×Bool)
 |0,r=>([],r)
 |k+1,r=>((rdB t most r).1::(rdBs t most k (rdB t most r).2).1,(rdBs t most k (rdB t most r).2).2)
theorem Zm7 {t:List UInt8} {r:Nat×Bool} (h:r.1≤t.length):(rdL t r).2.1≤t.length:=Zjs (Zjs h)
theorem Zk0 {t:List UInt8} {m:Int} {r:Nat×Bool} (h:r.1≤t.length):(rdB t m r).2.1≤t.length:=Zm6 (Zjs h)
theorem Zg9 {t:List UInt8}:∀ {k:Nat} {r:Nat×Bool},r.1≤t.length→sfx t r=none→sfx t (rdLs t k r).2=none
 |0,_,_,h=>h
 |k+1,r,hl,h=>by
  have h1:=ZhQ hl;rw [h] at h1;simp only at h1;have h2:=ZhQ (Zjs hl);rw [h1.2] at h2;exact Zg9 (k:=k) (r:=(rdL t r).2) (Zm7 hl) h2.2
theorem ZfT {t:List UInt8} {most:Nat}:∀ {k:Nat} {r:Nat×Bool},r.1≤t.length→sfx t r=none→sfx t (rdBs t most k r).2=none
 |0,_,_,h=>h
 |k+1,r,hl,h=>by
  have h1:=ZhQ hl;rw [h] at h1;simp only at h1;have h2:=Zjr (most:=most) (Zjs hl);rw [h1.2] at h2;exact ZfT (k:=k) (r:=(rdB t most r).2) (Zk0 hl) h2.2
theorem Zua {t:List UInt8}:∀ {k:Nat} {r:Nat×Bool} {l:List UInt8},r.1≤t.length→sfx t r=some l→match pl k l with
  |none=>sfx t (rdLs t k r).2=none
  |some (es,rest)=>(rdLs t k r).1=es∧sfx t (rdLs t k r).2=some rest
 |0,r,l,_,h=>⟨rfl,h⟩
 |k+1,r,l,hl,h=>by
  have h1:=ZhQ hl;rw [h] at h1;simp only at h1;have h2:=ZhQ (Zjs hl);simp only [pl];cases e1:rs l with
  |none=>
   rw [e1] at h1;rw [h1.2] at h2;exact Zg9 (k:=k) (r:=(rdL t r).2) (Zm7 hl) h2.2
  |some p=>
   obtain ⟨key,l1⟩:=p;rw [e1] at h1;rw [h1.2] at h2;simp only;simp only at h2;cases e2:rs l1 with
   |none=>
    rw [e2] at h2;exact Zg9 (k:=k) (r:=(rdL t r).2) (Zm7 hl) h2.2
   |some p=>
    obtain ⟨v,l2⟩:=p;rw [e2] at h2;simp only;have h3:=Zua (k:=k) (Zm7 hl) (show sfx t (rdL t r).2=some l2 from h2.2);cases e3:pl k l2 with
    |none=>rw [e3] at h3;exact h3
    |some p=>
     obtain ⟨es,rest⟩:=p;rw [e3] at h3;refine ⟨?_,h3.2⟩;simp only [rdLs,rdL];rw [h1.1,h2.1];congr 1;exact h3.1
theorem Zuc {t:List UInt8} {most:Nat}:∀ {k:Nat} {r:Nat×Bool} {l:List UInt8},r.1≤t.length→sfx t r=some l→match pb most k l with
  |none=>sfx t (rdBs t most k r).2=none
  |some (es,rest)=>(rdBs t most k r).1=es∧sfx t (rdBs t most k r).2=some rest
 |0,r,l,_,h=>⟨rfl,h⟩
 |k+1,r,l,hl,h=>by
  have h1:=ZhQ hl;rw [h] at h1;simp only at h1;have h2:=Zjr (most:=most) (Zjs hl);simp only [pb];cases e1:rs l with
  |none=>
   rw [e1] at h1;rw [h1.2] at h2;exact ZfT (k:=k) (r:=(rdB t most r).2) (Zk0 hl) h2.2
  |some p=>
   obtain ⟨key,l1⟩:=p;rw [e1] at h1;rw [h1.2] at h2;simp only;simp only at h2;cases e2:rv l1 with
   |none=>
    rw [e2] at h2;exact ZfT (k:=k) (r:=(rdB t most r).2) (Zk0 hl) h2.2
   |some p=>
    obtain ⟨v,l2⟩:=p;rw [e2] at h2;simp only;simp only at h2;by_cases hv:v≤most
    ·rw [if_pos hv] at h2;rw [if_pos hv];have h3:=Zuc (most:=most) (k:=k) (Zk0 hl) (show sfx t (rdB t most r).2=some l2 from h2.2);cases e3:pb most k l2 with
     |none=>rw [e3] at h3;exact h3
     |some p=>
      obtain ⟨es,rest⟩:=p;rw [e3] at h3;refine ⟨?_,h3.2⟩;simp only [rdBs,rdB];rw [h1.1,h2.1];congr 1;exact h3.1
    ·rw [if_neg hv] at h2;rw [if_neg hv];exact ZfT (k:=k) (r:=(rdB t most r).2) (Zk0 hl) h2.2
theorem Zjt {t:List UInt8}:∀ {k:Nat} {r:Nat×Bool},rdLs t (k+1) r=((rdLs t k r).1++[(rdL t (rdLs t k r).2).1],(rdL t (rdLs t k r).2).2)
 |0,r=>rfl
 |k+1,r=>by rw [rdLs,Zjt];rfl
theorem Zju {t:List UInt8} {most:Int}:∀ {k:Nat} {r:Nat×Bool},rdBs t most (k+1) r=((rdBs t most k r).1++[(rdB t most (rdBs t most k r).2).1],(rdB t most (rdBs t most k r).2).2)
 |0,r=>rfl
 |k+1,r=>by rw [rdBs,Zju];rfl
theorem ZqG {t:List UInt8}:∀ {k:Nat} {r:Nat×Bool},(rdLs t k r).1.length=k
 |0,_=>rfl
 |k+1,r=>by simp [rdLs,ZqG]
theorem ZqH {t:List UInt8} {most:Int}:∀ {k:Nat} {r:Nat×Bool},(rdBs t most k r).1.length=k
 |0,_=>rfl
 |k+1,r=>by simp [rdBs,ZqH]
theorem Zub {t:List UInt8}:∀ {k:Nat} {r:Nat×Bool},r.1≤t.length→(rdLs t k r).2.1≤t.length
 |0,_,h=>h
 |k+1,_,h=>Zub (k:=k) (Zm7 h)
theorem Zud {t:List UInt8} {most:Int}:∀ {k:Nat} {r:Nat×Bool},r.1≤t.length→(rdBs t most k r).2.1≤t.length
 |0,_,h=>h
 |k+1,_,h=>Zud (k:=k) (Zk0 h)
end Go.Rx
namespace Go.Rx
open Go
theorem u8_eq {c d:UInt8}:c.toNat=d.toNat↔c=d:=UInt8.toNat_inj
end Go.Rx
namespace Go.Rx
end Go.Rx
namespace Go.Rx
open Go
theorem ZkY {t : List UInt8} {r : Nat × Bool} (hr : r.1 ≤ t.length) : ∀ {m i : Nat}, i ≤ m → sfx t (rdLs t i r).2 = none → sfx t (rdLs t m r).2 = none
  | 0, i, hi, h => by obtain rfl : i = 0 := by omega
                      exact h
  | m + 1, i, hi, h => by
    by_cases he : i = m + 1
    · subst he; exact h
    · have h1 := ZkY hr (m := m) (by omega) h
      rw [Zjt];have := Zg9 (k := 1) (Zub (k := m) hr) h1;exact this
theorem ZkZ {t : List UInt8} {most : Nat} {r : Nat × Bool} (hr : r.1 ≤ t.length) : ∀ {m i : Nat}, i ≤ m → sfx t (rdBs t most i r).2 = none → sfx t (rdBs t most m r).2 = none
  | 0, i, hi, h => by obtain rfl : i = 0 := by omega
                      exact h
  | m + 1, i, hi, h => by
    by_cases he : i = m + 1
    · subst he; exact h
    · have h1 := ZkZ hr (m := m) (by omega) h
      rw [Zju];have := ZfT (most := most) (k := 1) (Zud (most := most) (k := m) hr) h1;exact this
theorem ZcE {t:List UInt8} {r:Nat×Bool}:sfx t r=none↔r.2=true:=by unfold sfx;split<;>simp_all
theorem Zr1 {c:UInt8} {b:List UInt8} (hc:c=108):ZcJ c b=
  if (rdLs (c::b) (min (rdV (c::b) 1000000000 (1,false)).1 10) (rdV (c::b) 1000000000 (1,false)).2).2.2=true then none
  else some (Zb1 (rdLs (c::b) (min (rdV (c::b) 1000000000 (1,false)).1 10) (rdV (c::b) 1000000000 (1,false)).2).1):=by
 have hle:(1:Nat)≤(c::b).length:=by simp
 have hv:=Zjr (t:=c::b) (most:=1000000000) (r:=(1,false)) hle;have hle2:(rdV (c::b) (1000000000:Nat) (1,false)).2.1≤(c::b).length:=Zm6 hle;have e0:rdV (c::b) 1000000000 (1,false)=rdV (c::b) (1000000000:Nat) (1,false):=rfl;rw [e0];have hs:sfx (c::b) (1,false)=some b:=rfl;rw [hs] at hv;simp only at hv;unfold ZcJ;cases h1:rv b with
 |none=>
  rw [h1] at hv;simp only at hv;rw [if_pos (ZcE.1 (Zg9 hle2 hv.2))]
 |some p=>
  obtain ⟨k,l⟩:=p;rw [h1] at hv;simp only at hv;rw [if_pos (ZdW.1 h1).1] at hv;simp only;rw [if_pos hc,hv.1];have h2:=Zua (k:=min k 10) hle2 hv.2;cases h3:pl (min k 10) l with
  |none=>rw [h3] at h2;rw [if_pos (ZcE.1 h2)];rfl
  |some p=>
   obtain ⟨es,rest⟩:=p;rw [h3] at h2;simp only at h2;rw [if_neg (fun e=>by rw [ZcE.2 e] at h2;cases h2.2),h2.1];rfl
theorem Znm {c:UInt8} {b:List UInt8} (hc:¬c=108):ZcJ c b=
  if (rdBs (c::b) 1000000000 (min (rdV (c::b) 1000000000 (1,false)).1 10) (rdV (c::b) 1000000000 (1,false)).2).2.2=true then none
  else some (Z0 (rdBs (c::b) 1000000000 (min (rdV (c::b) 1000000000 (1,false)).1 10) (rdV (c::b) 1000000000 (1,false)).2).1):=by
 have hle:(1:Nat)≤(c::b).length:=by simp
 have hv:=Zjr (t:=c::b) (most:=1000000000) (r:=(1,false)) hle;have hle2:(rdV (c::b) (1000000000:Nat) (1,false)).2.1≤(c::b).length:=Zm6 hle;have e0:rdV (c::b) 1000000000 (1,false)=rdV (c::b) (1000000000:Nat) (1,false):=rfl;have e1:∀k r,rdBs (c::b) 1000000000 k r=rdBs (c::b) (1000000000:Nat) k r:=fun _ _=>rfl
 rw [e0,e1];have hs:sfx (c::b) (1,false)=some b:=rfl;rw [hs] at hv;simp only at hv;unfold ZcJ;cases h1:rv b with
 |none=>
  rw [h1] at hv;simp only at hv;rw [if_pos (ZcE.1 (ZfT (most:=1000000000) hle2 hv.2))]
 |some p=>
  obtain ⟨k,l⟩:=p;rw [h1] at hv;simp only at hv;rw [if_pos (ZdW.1 h1).1] at hv;simp only;rw [if_neg hc,hv.1];have h2:=Zuc (most:=1000000000) (k:=min k 10) hle2 hv.2;cases h3:pb 1000000000 (min k 10) l with
  |none=>rw [h3] at h2;rw [if_pos (ZcE.1 h2)];rfl
  |some p=>
   obtain ⟨es,rest⟩:=p;rw [h3] at h2;simp only at h2;rw [if_neg (fun e=>by rw [ZcE.2 e] at h2;cases h2.2),h2.1];rfl
theorem Zl6 {t:List UInt8} (h:ZbE t=none):ZaH t=none:=by rw [ZaH,h]
theorem ZkD {t:List UInt8} {s:List UInt8} (h:ZbE t=some s) (hs:s.length<2):ZaH t=none:=by
 rw [ZaH,h]
 match s,hs with
 |[],_=>rfl
 |[c],_=>
  simp only [ZfS,ZeG];split
  ·rename_i n hp;split at hp
   ·cases hp
   ·cases hp
  ·rfl
end Go.Rx
namespace Go.Rx
open Go
theorem ZuU {t:List UInt8} {n:Z1} (h:ZaH t=some n):(n.Zj.zip n.Zk).length≤4∧n.Zj.length≤4:=by
 have:=(Zb5.1 h).1.2.1;simp only [List.length_zip];omega
theorem mul4 {n g:Nat} (h:n≤4):n*g≤4*g:=Nat.mul_le_mul_right g h
def room (f:Nat) (t:Tr):Prop:=t.pages.length+2*4 ^ f≤1000000000∧t.pairs.length+2*4 ^ f≤1000000000∧t.deeps.length+2*4 ^ f≤1000000000
end Go.Rx
namespace Go.Rx
open Go
theorem ZnB {rec:Int→List UInt8→List UInt8→Bool→Al→Al} {L:Al→Nat} {g:Nat} (hr:∀c lo hi m a,L (rec c lo hi m a)+1≤L a+g) {low high:List UInt8} {has:Bool}:∀ {l:List (List UInt8×Int)} {a:Al},
  L (Zge rec low high has l a)≤L a+l.length*(g - 1)
 |[],a=>by simp [Zge]
 |(k,c)::l,a=>by
  rw [Zge];have h1:=hr c (lowS low k) (Zd4 high has l) (Zd0 high has l) a;have h2:=ZnB hr (low:=low) (high:=high) (has:=has) (l:=l) (a:=rec c (lowS low k) (Zd4 high has l) (Zd0 high has l) a);simp only [List.length_cons,Nat.succ_mul];omega
theorem ZiO {d:ZT} {L:Al→Nat} (hB:∀a b,L {a with bad:=b}=L a)
  (h1:∀a p,L {a with pages:=a.pages++[p]}≤L a+1) (h2:∀(a:Al) p e (q:List ZR) lo,q.length≤4→L ⟨a.pairs++q,a.pages++[p],a.deeps++[e],a.bad,lo⟩≤L a+4):
  ∀ {f:Nat} {page:Int} {low high:List UInt8} {has:Bool} {a:Al},L (Zcr d f page low high has a)+1≤L a+2*4 ^ f
 |0,page,_,_,_,a=>by rw [Zcr,hB];omega
 |f+1,page,low,high,has,a=>by
  have hp:1≤4 ^ f:=Nat.one_le_pow _ _ (by omega);rw [Zcr,Nat.pow_succ];split
  ·rw [hB];omega
  ·rename_i n hn;obtain ⟨k4,k5⟩:=ZuU hn;split
   ·rw [hB];omega
   ·split
    ·rw [Zi0];have:=h2 a page (7 - (f:Int)) ((n.Zj.zip n.ZJ).map Zfq) (a.loose||(n.Zj.zip n.ZJ).any fun e=>Zax e.1 low||(has&& !Zax e.1 high)) (by simp only [List.length_map,List.length_zip];omega);simp only;omega
    ·have h3:=ZnB (L:=L) (rec:=Zcr d f) (fun c lo hi m a=>ZiO hB h1 h2) (low:=low) (high:=high) (has:=has) (l:=n.Zj.zip n.Zk) (a:=⟨a.pairs,a.pages++[page],a.deeps,a.bad,a.loose⟩);have h4:=h1 a page;have h5:=mul4 (g:=2*4 ^ f - 1) k4;omega
theorem ZbX {d:ZT} {f:Nat} {page:Int} {low high:List UInt8} {has:Bool} {a:Al}:(Zcr d f page low high has a).pages.length+1≤a.pages.length+2*4 ^ f:=
 ZiO (L:=fun a=>a.pages.length) (fun _ _=>rfl) (fun a p=>by simp) (fun a p e q lo h=>by simp)
theorem ZbW {d:ZT} {f:Nat} {page:Int} {low high:List UInt8} {has:Bool} {a:Al}:(Zcr d f page low high has a).pairs.length+1≤a.pairs.length+2*4 ^ f:=
 ZiO (L:=fun a=>a.pairs.length) (fun _ _=>rfl) (fun a p=>by simp) (fun a p e q lo h=>by simp;omega)
theorem Zcd {d:ZT} {f:Nat} {page:Int} {low high:List UInt8} {has:Bool} {a:Al}:(Zcr d f page low high has a).deeps.length+1≤a.deeps.length+2*4 ^ f:=
 ZiO (L:=fun a=>a.deeps.length) (fun _ _=>rfl) (fun a p=>by simp) (fun a p e q lo h=>by simp)
def roomS (f:Nat) (a:Al):Prop:=a.pages.length+2*4 ^ f≤1000000000∧a.pairs.length+2*4 ^ f≤1000000000∧a.deeps.length+2*4 ^ f≤1000000000
def Zet (low high:List UInt8) (has:Bool) (k v:List UInt8) (a:Al):Al:=⟨a.pairs++[⟨k,v⟩],a.pages,a.deeps,a.bad,a.loose||(Zax k low||(has&& !Zax k high))⟩
theorem Zr4 {low high:List UInt8} {has:Bool} {k v:List UInt8} {l:List (List UInt8×List UInt8)} {a:Al}:ZjN low high has ((k,v)::l) a=ZjN low high has l (Zet low high has k v a):=rfl
end Go.Rx
namespace Go.Rx
open Go
def Zcu (w:ZS):ZS×Int:=match w.ZH with
 |u::us=>({w with ZH:=us,Zf:=w.Zf++[u]},u)
 |[]=>if (w.Zc.Zv.length:Int)≤w.Zs then (w,0) else ({w with Zs:=IntKind.i64.wrap (w.Zs+1),Zf:=w.Zf++[w.Zs]},w.Zs)
def putN (w:ZS) (n:Z1):Option (ZS×Int):=
 if ZaA n then if (Zcu w).2=0 then none else
  match Zak (Zcu w).1.Zc (Zcu w).2 (Zcf n) with
  |none=>none
  |some d=>some ({(Zcu w).1 with Zc:=d},(Zcu w).2)
 else none
structure OW where
 pages:List (List UInt8)
 late:List GPut
 next:Int
 ua:List Int
 uo:Nat
 gone:List Int
 fresh:List Int
def OW.work (w:OW):ZS:=⟨⟨w.pages,w.late⟩,w.next,w.ua.drop w.uo,w.gone,w.fresh⟩
def ofW (w:ZS):OW:=⟨w.Zc.Zv,w.Zc.Zm,w.Zs,w.ZH,0,w.Zg,w.Zf⟩
def OW.v (w:OW):V:= .agg [.own 0 0 w.pages.length,.own 1 0 w.late.length,.d (.int .i64 w.next),.own 2 w.uo (w.ua.length - w.uo),.own 3 0 w.gone.length,.own 4 0 w.fresh.length]
def OW.h (w:OW):List (Nat×AObj):=[(0,.arr 1 (strs w.pages)),(1,.arr 2 (Zae w.late)),(2,.arr 1 (ints w.ua)),(3,.arr 1 (ints w.gone)),(4,.arr 1 (ints w.fresh))]
theorem OW.v_eq {w:OW}:w.v= .agg [.own 0 0 w.pages.length,.own 1 0 w.late.length,.d (.int .i64 w.next),.own 2 w.uo (w.ua.length - w.uo),.own 3 0 w.gone.length,.own 4 0 w.fresh.length]:=rfl
theorem OW.h_eq {w:OW}:w.h=[(0,.arr 1 (strs w.pages)),(1,.arr 2 (Zae w.late)),(2,.arr 1 (ints w.ua)),(3,.arr 1 (ints w.gone)),(4,.arr 1 (ints w.fresh))]:=rfl
theorem Zre {w:OW}:ZhJ w.h:=ZdO ZnS (ZdO Zlu (ZdO Zhu (ZdO Zhu (ZdO Zhu Zd6))))
attribute [go_sem] Nat.sub_zero
theorem ZuZ {l:List Int} {o:Nat}:((ints l).drop o).take (l.length - o)=ints (l.drop o):=by
 rw [Zu3,List.take_of_length_le (by simp [ints])]
attribute [go_sem] ZuZ
end Go.Rx
namespace Go.Rx
open Go
def Zck (d:ZT):Prop:=d.Zv.length≤1048576∧d.Zm.length≤1048576
def smallW (w:ZS):Prop:=Zck w.Zc∧w.ZH.length≤1048576∧w.Zg.length≤1048576∧w.Zf.length≤1048576+w.Zc.Zm.length
structure Ch where
 w:OW
 bad:Bool
def Ch.h (c:Ch):List (Nat×AObj):=[(0,.box [.own 1 0 c.w.pages.length,.own 2 0 c.w.late.length,.d (.int .i64 c.w.next),.own 3 c.w.uo (c.w.ua.length - c.w.uo),.own 4 0 c.w.gone.length,.own 5 0 c.w.fresh.length,.d (.bool c.bad)]),
 (1,.arr 1 (strs c.w.pages)),(2,.arr 2 (Zae c.w.late)),(3,.arr 1 (ints c.w.ua)),(4,.arr 1 (ints c.w.gone)),(5,.arr 1 (ints c.w.fresh))]
theorem Zj0 {w:ZS} (h:smallW w):(Zcu w).1.Zc=w.Zc∧(Zcu w).1.ZH.length≤1048576∧(Zcu w).1.Zg.length≤1048576∧(Zcu w).1.Zf.length≤1048577+w.Zc.Zm.length:=by
 obtain ⟨h1,h2,h3,h4⟩:=h;unfold Zcu;split
 ·rename_i u us hu;rw [hu] at h2;simp only [List.length_cons] at h2;refine ⟨rfl,?_,h3,?_⟩
  ·show us.length≤_;omega
  ·show (w.Zf++[u]).length≤_;simp only [List.length_append,List.length_cons,List.length_nil];omega
 ·split
  ·exact ⟨rfl,h2,h3,Nat.le_trans h4 (by omega)⟩
  ·refine ⟨rfl,h2,h3,?_⟩;show (w.Zf++[w.Zs]).length≤_;simp only [List.length_append,List.length_cons,List.length_nil];omega
theorem ZeE {w w':ZS} {n:Z1} {p:Int} (h:smallW w) (hp:putN w n=some (w',p)):smallW w':=by
 obtain ⟨g1,g2,g3,g4⟩:=Zj0 h;unfold putN at hp;split at hp
 ·split at hp
  ·cases hp
  ·split at hp
   ·cases hp
   ·rename_i d hd;simp only [Option.some.injEq,Prod.mk.injEq] at hp;obtain ⟨rfl,rfl⟩:=hp;unfold Zak at hd;split at hd
    ·rename_i hc;obtain rfl:=Option.some.inj hd;rw [g1];have:=h.1.2;have:=h.1.1;have:=hc.2.2.2;rw [g1] at this;refine ⟨⟨by omega,?_⟩,g2,g3,?_⟩
     ·simp only [List.length_append,List.length_cons,List.length_nil];omega
     ·simp only [List.length_append,List.length_cons,List.length_nil];omega
    ·cases hd
 ·cases hp
theorem Zcl {w w':ZS} {n:Z1} {p:Int} (hp:putN w n=some (w',p)):p≠0:=by
 unfold putN at hp;split at hp
 ·split at hp
  ·cases hp
  ·rename_i h;split at hp
   ·cases hp
   ·simp only [Option.some.injEq,Prod.mk.injEq] at hp;exact hp.2▸h
 ·cases hp
end Go.Rx
namespace Go.Rx
open Go
def ZaR {α:Type}:List α→List (List α)
 |[]=> []
 |x::l=>((x::l).take 4)::ZaR (l.drop 3)
termination_by l=>l.length
decreasing_by simp only [List.length_drop,List.length_cons];omega
theorem ZbJ {α:Type}:ZaR ([]:List α)=[]:=by rw [ZaR]
theorem Zcc {α:Type} {l:List α} (h:l≠ []):ZaR l=l.take 4::ZaR (l.drop 4):=by
 cases l with
 |nil=>exact absurd rfl h
 |cons x l=>rw [ZaR];rfl
theorem Zhz {α:Type} {l:List α} {i:Nat} (h:i<l.length):ZaR (l.drop i)=(l.drop i).take 4::ZaR (l.drop (i+4)):=by
 rw [Zcc (fun e=>by have:=congrArg List.length e;simp at this;omega),List.drop_drop]
theorem ZlD {α:Type} {l:List α} {i:Nat} (h:l.length≤i):ZaR (l.drop i)=[]:=by
 rw [List.drop_eq_nil_of_le h,ZbJ]
abbrev GKid:=ZhI
def Za2 (b:List ZR):Z1:=⟨true,b.map (·.Zi),b.map (·.ZI),[]⟩
def kidB (b:List GKid):Z1:=⟨false,b.map (·.Zr),[],b.map (·.Zl)⟩
def key1:List ZR→List UInt8
 |[]=> []
 |p::_=>p.Zi
def Zy2:List GKid→List UInt8
 |[]=> []
 |p::_=>p.Zr
end Go.Rx
namespace Go.Rx
open Go
theorem ZeQ {α:Type}:∀(n:Nat) (l:List α),l.length≤n→4*(ZaR l).length≤l.length+3
 |0,l,h=>by
  have:l=[]:=List.eq_nil_of_length_eq_zero (by omega);subst this;rw [ZbJ];simp
 |n+1,l,h=>by
  cases l with
  |nil=>rw [ZbJ];simp
  |cons x l=>
   have:=ZeQ n (l.drop 3) (by simp at h ⊢;omega);rw [ZaR];simp at this ⊢;by_cases hl:l.length≤3
   ·rw [show l.drop 3=[] from List.drop_eq_nil_of_le hl,ZbJ];simp
   ·omega
def page1:List GKid→Int
 |[]=>0
 |k::_=>k.Zl
end Go.Rx
namespace Go.Rx
open Go
def ZbH:ZS→List GKid→List (List ZR)→Option (ZS×List GKid)
 |w,out,[]=>some (w,out)
 |w,out,b::bs=>match putN w (Za2 b) with
  |none=>none
  |some (w',p)=>ZbH w' (out++[⟨key1 b,p⟩]) bs
def Zcz:ZS→List GKid→List (List GKid)→Option (ZS×List GKid)
 |w,out,[]=>some (w,out)
 |w,out,b::bs=>match putN w (kidB b) with
  |none=>none
  |some (w',p)=>Zcz w' (out++[⟨Zy2 b,p⟩]) bs
def Zc2:Nat→ZS→List GKid→Option (ZS×List GKid)
 |0,w,k=>some (w,k)
 |f+1,w,k=>if 1<k.length then match Zcz w [] (ZaR k) with
  |none=>none
  |some (w',k')=>Zc2 f w' k' else some (w,k)
def ZhC (w:ZS) (l:List ZR):Option (ZS×Int):=
 if ascK (l.map (·.Zi)) then match ZbH w [] (ZaR l) with
  |none=>none
  |some (w1,k1)=>match Zc2 l.length w1 k1 with
   |none=>none
   |some (w2,k2)=>some (w2,page1 k2)
 else none
theorem Zlg:∀ {bs:List (List GKid)} {w:ZS} {out:List GKid} {w':ZS} {k:List GKid},Zcz w out bs=some (w',k)→k.length=out.length+bs.length
 |[],w,out,w',k,h=>by simp [Zcz] at h;rw [h.2];rfl
 |b::bs,w,out,w',k,h=>by
  rw [Zcz] at h;split at h
  ·cases h
  ·have:=Zlg h;simp at this ⊢;omega
theorem ZjM:∀ {bs:List (List ZR)} {w:ZS} {out:List GKid} {w':ZS} {k:List GKid},ZbH w out bs=some (w',k)→k.length=out.length+bs.length
 |[],w,out,w',k,h=>by simp [ZbH] at h;rw [h.2];rfl
 |b::bs,w,out,w',k,h=>by
  rw [ZbH] at h;split at h
  ·cases h
  ·have:=ZjM h;simp at this ⊢;omega
theorem Zno {f:Nat} {w:ZS} {k:List GKid} (h:¬1<k.length):Zc2 f w k=some (w,k):=by
 cases f with
 |zero=>rfl
 |succ f=>rw [Zc2,if_neg h]
end Go.Rx
