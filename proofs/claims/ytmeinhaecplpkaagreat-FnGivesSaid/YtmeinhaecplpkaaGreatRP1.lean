/-
  Part P1: lemmas on an evaluator over plain data of the model's code, plain laws on lists and numbers, or contracts of functions of the program; each lemma names its conditions.
-/
import Derived.Test.YtmeinhaecplpkaaGreatRE6

set_option linter.unusedSimpArgs false
set_option linter.unusedVariables false
namespace Go.Rx
open Go
def varB (n:Nat):List UInt8:=
 if n<128 then [UInt8.ofNat n] else UInt8.ofNat (n%128+128)::varB (n / 128)
termination_by n
decreasing_by omega
theorem varB_small {n:Nat} (h:n<128):varB n=[UInt8.ofNat n]:=by rw [varB,if_pos h]
theorem varB_big {n:Nat} (h:¬n<128):varB n=UInt8.ofNat (n%128+128)::varB (n / 128):=by
 conv=>lhs;rw [varB]
 rw [if_neg h]
theorem varB_ne {n:Nat}:varB n≠ []:=by rw [varB];split<;>simp
def rvGo:Nat→Nat→List UInt8→Option (Nat×List UInt8)
 |_,_,[]=>none
 |k,n,x::l=>if 5≤k then none else if 127<x.toNat then rvGo (k+1) (n+x.toNat%128*128 ^ k) l
   else if (x.toNat=0∧0<k)∨1000000000<n+x.toNat*128 ^ k then none else some (n+x.toNat*128 ^ k,l)
def rv (l:List UInt8):Option (Nat×List UInt8):=rvGo 0 0 l
theorem toNat_of {n:Nat} (h:n<256):(UInt8.ofNat n).toNat=n:=by simp [Nat.mod_eq_of_lt h]
theorem ofNat_to {x:UInt8}:UInt8.ofNat x.toNat=x:=by simp
theorem byte_lt (x:UInt8):x.toNat<256:=x.toNat_lt
theorem split128 (m p:Nat):m*p=m%128*p+m / 128*(p*128):=by
 conv=>lhs;rw [←Nat.mod_add_div m 128]
 rw [Nat.add_mul,Nat.mul_comm 128 (m / 128),Nat.mul_assoc,Nat.mul_comm 128 p]
theorem pow5 {k m p v n:Nat} (hp:p=128 ^ k) (hv:v=n+m*p) (hm:0<k→0<m) (h:v≤1000000000):k<5:=by
 refine Decidable.byContradiction fun hk=>?_
 have h1:128 ^ 5≤128 ^ k:=Nat.pow_le_pow_right (by omega) (by omega)
 have h2:1*p≤m*p:=Nat.mul_le_mul_right p (hm (by omega))
 have h3:(128:Nat) ^ 5=34359738368:=by decide
 omega
theorem rvGo_iff:∀ {l:List UInt8} {k n v:Nat} {rest:List UInt8},rvGo k n l=some (v,rest)↔v≤1000000000∧∃m,v=n+m*128 ^ k∧l=varB m++rest∧(0<k→0<m)
 |[],k,n,v,rest=>by
  simp only [rvGo]
  refine ⟨fun h=>(by cases h),fun h=>?_⟩
  obtain ⟨_,m,_,h2,_⟩:=h
  have:=congrArg List.length h2
  have hne:=List.length_pos_iff.2 (varB_ne (n:=m))
  simp at this;omega
 |x::l,k,n,v,rest=>by
  have hx:=byte_lt x
  simp only [rvGo]
  constructor
  ·intro h
   split at h
   ·cases h
   ·rename_i hk
    split at h
    ·rename_i hb
     obtain ⟨h1,m,h2,h3,h4⟩:=rvGo_iff.1 h
     have hm:=h4 (by omega)
     refine ⟨h1,x.toNat%128+128*m,?_,?_,fun _=>by omega⟩
     ·rw [h2,split128 (x.toNat%128+128*m),Nat.pow_succ]
      have e1:(x.toNat%128+128*m)%128=x.toNat%128:=by omega
      have e2:(x.toNat%128+128*m) / 128=m:=by omega
      rw [e1,e2,Nat.add_assoc]
     ·rw [varB_big (by omega)]
      have e1:(x.toNat%128+128*m)%128+128=x.toNat:=by omega
      have e2:(x.toNat%128+128*m) / 128=m:=by omega
      rw [e1,e2,ofNat_to,h3];rfl
    ·rename_i hb
     split at h
     ·cases h
     ·rename_i hc
      simp only [Option.some.injEq,Prod.mk.injEq] at h
      obtain ⟨rfl,rfl⟩:=h
      exact ⟨by omega,x.toNat,rfl,by rw [varB_small (by omega),ofNat_to];rfl,fun h=>by omega⟩
  ·rintro ⟨h1,m,h2,h3,h4⟩
   have hk:=pow5 rfl h2 h4 h1
   rw [if_neg (by omega)]
   by_cases hm:m<128
   ·rw [varB_small hm] at h3
    simp only [List.cons_append,List.nil_append,List.cons.injEq] at h3
    obtain ⟨rfl,rfl⟩:=h3
    rw [toNat_of (by omega),if_neg (by omega),if_neg (by omega),h2]
   ·rw [varB_big hm] at h3
    simp only [List.cons_append,List.cons.injEq] at h3
    obtain ⟨rfl,rfl⟩:=h3
    rw [toNat_of (by omega),if_pos (by omega)]
    refine rvGo_iff.2 ⟨h1,m / 128,?_,rfl,fun _=>by omega⟩
    rw [h2,split128 m,Nat.pow_succ]
    have e1:(m%128+128)%128=m%128:=by omega
    rw [e1,Nat.add_assoc]
theorem rv_iff {l:List UInt8} {v:Nat} {rest:List UInt8}:rv l=some (v,rest)↔v≤1000000000∧l=varB v++rest:=by
 unfold rv
 rw [rvGo_iff]
 constructor
 ·rintro ⟨h1,m,h2,h3,_⟩
  obtain rfl:v=m:=by simpa using h2
  exact ⟨h1,h3⟩
 ·rintro ⟨h1,h2⟩
  exact ⟨h1,v,by simp,h2,fun h=>by omega⟩
def shortB (s:List UInt8):List UInt8:=varB s.length++s
def rs (l:List UInt8):Option (List UInt8×List UInt8):=match rv l with
 |none=>none
 |some (n,r)=>if n≤20000∧n≤r.length then some (r.take n,r.drop n) else none
theorem rs_iff {l s rest:List UInt8}:rs l=some (s,rest)↔s.length≤20000∧l=shortB s++rest:=by
 unfold rs
 constructor
 ·intro h
  split at h
  ·cases h
  ·rename_i n r hv
   split at h
   ·rename_i hn
    simp only [Option.some.injEq,Prod.mk.injEq] at h
    obtain ⟨rfl,rfl⟩:=h
    obtain ⟨_,h2⟩:=rv_iff.1 hv
    have e:(r.take n).length=n:=by simp;omega
    refine ⟨by omega,?_⟩
    rw [shortB,e,List.append_assoc,List.take_append_drop,h2]
   ·cases h
 ·rintro ⟨h1,rfl⟩
  have:rv (shortB s++rest)=some (s.length,s++rest):=rv_iff.2 ⟨by omega,by rw [shortB,List.append_assoc]⟩
  rw [this]
  simp only
  rw [if_pos ⟨h1,by simp⟩]
  simp
theorem suffix_drop {α:Type} {t l r:List α} {at_:Nat} (h:t.drop at_=l++r) (ha:at_≤t.length):r=t.drop (t.length - r.length)∧t.length - r.length=at_+l.length∧r.length≤t.length:=by
 have hl:=congrArg List.length h
 simp only [List.length_drop,List.length_append] at hl
 refine ⟨?_,by omega,by omega⟩
 have e:t.length - r.length=at_+l.length:=by omega
 rw [e,←List.drop_drop,h,List.drop_left]
def readVar (t:List UInt8) (at_:Int):Option (Nat×Nat):=
 if 0≤at_∧at_≤t.length then (rv (t.drop at_.toNat)).map fun r=>(r.1,t.length - r.2.length) else none
def readShort (t:List UInt8) (at_:Int):Option (List UInt8×Nat):=match readVar t at_ with
 |none=>none
 |some (n,a)=>if n≤20000∧n≤t.length - a then some ((t.take (a+n)).drop a,a+n) else none
theorem readVar_some {t:List UInt8} {a:Nat} {n b:Nat} (ha:a≤t.length):readVar t a=some (n,b)↔n≤1000000000∧t.drop a=varB n++t.drop b∧b=a+(varB n).length∧b≤t.length:=by
 unfold readVar
 rw [if_pos (by omega),Int.toNat_natCast]
 constructor
 ·intro h
  cases hv:rv (t.drop a) with
  |none=>rw [hv] at h;cases h
  |some r=>
   obtain ⟨m,r⟩:=r
   rw [hv] at h
   simp only [Option.map_some,Option.some.injEq,Prod.mk.injEq] at h
   obtain ⟨rfl,rfl⟩:=h
   obtain ⟨h1,h2⟩:=rv_iff.1 hv
   obtain ⟨h3,h4,h5⟩:=suffix_drop h2 ha
   exact ⟨h1,by rw [←h3];exact h2,h4,by omega⟩
 ·rintro ⟨h1,h2,h3,h4⟩
  rw [rv_iff.2 ⟨h1,h2⟩]
  simp only [Option.map_some,List.length_drop,Option.some.injEq,Prod.mk.injEq,true_and]
  omega
theorem readVar_lt {t:List UInt8} {a:Int} {n b:Nat} (h:readVar t a=some (n,b)):n≤1000000000∧b≤t.length∧a<b∧0≤a:=by
 have h0:=h
 unfold readVar at h0
 split at h0
 ·rename_i hh
  obtain ⟨a',rfl⟩:=Int.eq_ofNat_of_zero_le hh.1
  obtain ⟨h1,h2,h3,h4⟩:=(readVar_some (by omega)).1 h
  have:=List.length_pos_iff.2 (varB_ne (n:=n))
  omega
 ·cases h0
theorem readShort_some {t:List UInt8} {a:Nat} {s:List UInt8} {b:Nat} (ha:a≤t.length):readShort t a=some (s,b)↔s.length≤20000∧t.drop a=shortB s++t.drop b∧b=a+(shortB s).length∧b≤t.length:=by
 unfold readShort
 constructor
 ·intro h
  split at h
  ·cases h
  ·rename_i n c hv
   obtain ⟨h1,h2,h3,h4⟩:=(readVar_some ha).1 hv
   split at h
   ·rename_i hn
    simp only [Option.some.injEq,Prod.mk.injEq] at h
    obtain ⟨rfl,rfl⟩:=h
    have hl:(List.drop c (List.take (c+n) t)).length=n:=by simp;omega
    refine ⟨by omega,?_,?_,by omega⟩
    ·rw [shortB,hl,List.append_assoc,h2]
     congr 1
     rw [List.drop_take,Nat.add_sub_cancel_left,←List.drop_drop,List.take_append_drop]
    ·rw [shortB,hl,List.length_append,hl];omega
   ·cases h
 ·rintro ⟨h1,h2,h3,h4⟩
  have hs:t.drop (a+(varB s.length).length)=s++t.drop b:=by
   rw [←List.drop_drop,h2,shortB,List.append_assoc,List.drop_left]
  have hb:a+(varB s.length).length+s.length=b:=by rw [h3,shortB,List.length_append];omega
  have:readVar t a=some (s.length,a+(varB s.length).length):=(readVar_some ha).2 ⟨by omega,by rw [hs,h2,shortB,List.append_assoc],rfl,by omega⟩
  rw [this]
  simp only
  rw [if_pos (by omega)]
  simp only [Option.some.injEq,Prod.mk.injEq]
  refine ⟨?_,hb⟩
  rw [List.drop_take,Nat.add_sub_cancel_left,hs,List.take_left]
theorem readShort_lt {t:List UInt8} {a:Int} {s:List UInt8} {b:Nat} (h:readShort t a=some (s,b)):s.length≤20000∧b≤t.length∧a<b∧0≤a:=by
 unfold readShort at h
 split at h
 ·cases h
 ·rename_i n c hv
  obtain ⟨h1,h2,h3,h4⟩:=readVar_lt hv
  split at h
  ·simp only [Option.some.injEq,Prod.mk.injEq] at h
   obtain ⟨rfl,rfl⟩:=h
   refine ⟨?_,by omega,by omega,h4⟩
   simp;omega
  ·cases h
def crcBit (s:Nat):Nat:=if s%2=1 then (s / 2) ^^^ 3558460437 else s / 2
def crcBits:Nat→Nat→Nat
 |0,s=>s
 |k+1,s=>crcBits k (crcBit s)
def crcByte (s b:Nat):Nat:=crcBits 8 (s ^^^ b)
def sumMore (s:Nat) (t:List UInt8):Nat:=t.foldl (fun s b=>crcByte s b.toNat) s
def sumOf (t:List UInt8):Nat:=sumMore 4294967295 t
theorem crcBit_lt {s:Nat} (h:s<4294967296):crcBit s<4294967296:=by
 unfold crcBit
 split
 ·exact Nat.xor_lt_two_pow (n:=32) (by omega) (by omega)
 ·omega
theorem crcBits_lt:∀ {k s:Nat},s<4294967296→crcBits k s<4294967296
 |0,_,h=>h
 |k+1,_,h=>crcBits_lt (k:=k) (crcBit_lt h)
theorem crcByte_lt {s b:Nat} (h:s<4294967296) (hb:b<256):crcByte s b<4294967296:=crcBits_lt (Nat.xor_lt_two_pow (n:=32) (by omega) (by omega))
theorem sumMore_lt:∀ {t:List UInt8} {s:Nat},s<4294967296→sumMore s t<4294967296
 |[],s,h=>h
 |b::t,s,h=>by
  show sumMore (crcByte s b.toNat) t<_
  exact sumMore_lt (crcByte_lt h (byte_lt b))
theorem sumOf_lt {t:List UInt8}:sumOf t<4294967296:=sumMore_lt (by omega)
theorem sumMore_snoc {s:Nat} {t:List UInt8} {i:Nat} {p:UInt8} (h:t[i]? =some p):sumMore s (t.take (i+1))=crcByte (sumMore s (t.take i)) p.toNat:=by
 rw [take_snoc h];simp [sumMore]
def four (n:Nat):List UInt8:=[UInt8.ofNat (n / 16777216),UInt8.ofNat (n / 65536),UInt8.ofNat (n / 256),UInt8.ofNat n]
theorem four_len {n:Nat}:(four n).length=4:=rfl
def sealB (t:List UInt8):List UInt8:=t++four (sumOf t)
theorem seal_len {t:List UInt8}:(sealB t).length=t.length+4:=by simp [sealB,four]
def unsealB (t:List UInt8):Option (List UInt8):=
 if 4≤t.length∧t.length - 4≤20000∧t.drop (t.length - 4)=four (sumOf (t.take (t.length - 4))) then some (t.take (t.length - 4)) else none
theorem unseal_iff {t b:List UInt8}:unsealB t=some b↔b.length≤20000∧t=sealB b:=by
 unfold unsealB
 constructor
 ·intro h
  split at h
  ·rename_i hh
   obtain ⟨h1,h2,h3⟩:=hh
   obtain rfl:=Option.some.inj h
   refine ⟨by simp;omega,?_⟩
   rw [sealB,←h3,List.take_append_drop]
  ·cases h
 ·rintro ⟨h1,rfl⟩
  have e:(sealB b).length - 4=b.length:=by rw [seal_len];omega
  have e1:(sealB b).take b.length=b:=by simp [sealB]
  have e2:(sealB b).drop b.length=four (sumOf b):=by simp [sealB]
  rw [e,e1,e2,if_pos ⟨by rw [seal_len];omega,h1,rfl⟩]
end Go.Rx
namespace Go.Rx
open Go
def ascK (l:List (List UInt8)):Prop:=l.Pairwise fun a b=>bLess a b=true
instance {l:List (List UInt8)}:Decidable (ascK l):=by unfold ascK;infer_instance
def nodeOk (n:GNode):Prop:=
 1≤n.fKeys.length∧n.fKeys.length≤4∧ascK n.fKeys∧(∀k∈n.fKeys,k.length≤24)∧
 if n.fLeaf=true then n.fVals.length=n.fKeys.length∧(∀v∈n.fVals,v.length≤24)∧n.fKids=[]
 else n.fKids.length=n.fKeys.length∧n.fVals=[]∧(∀k∈n.fKids,2≤k∧k≤39)∧n.fKids.Nodup
instance {n:GNode}:Decidable (nodeOk n):=by unfold nodeOk;infer_instance
def lent (e:List UInt8×List UInt8):List UInt8:=shortB e.1++shortB e.2
def bent (e:List UInt8×Int):List UInt8:=shortB e.1++varB e.2.toNat
def nodeBytes (n:GNode):List UInt8:=
 (if n.fLeaf=true then 108 else 98)::(varB n.fKeys.length++if n.fLeaf=true then (n.fKeys.zip n.fVals).flatMap lent else (n.fKeys.zip n.fKids).flatMap bent)
def nodeText (n:GNode):List UInt8:=sealB (nodeBytes n)
def pl:Nat→List UInt8→Option (List (List UInt8×List UInt8)×List UInt8)
 |0,l=>some ([],l)
 |k+1,l=>match rs l with
  |none=>none
  |some (key,l1)=>match rs l1 with
   |none=>none
   |some (v,l2)=>(pl k l2).map fun r=>((key,v)::r.1,r.2)
def pb (most:Nat):Nat→List UInt8→Option (List (List UInt8×Int)×List UInt8)
 |0,l=>some ([],l)
 |k+1,l=>match rs l with
  |none=>none
  |some (key,l1)=>match rv l1 with
   |none=>none
   |some (v,l2)=>if v≤most then (pb most k l2).map fun r=>((key,(v:Int))::r.1,r.2) else none
theorem pl_iff:∀ {k:Nat} {l:List UInt8} {es:List (List UInt8×List UInt8)} {rest:List UInt8},pl k l=some (es,rest)↔
  es.length=k∧(∀e∈es,e.1.length≤20000∧e.2.length≤20000)∧l=es.flatMap lent++rest
 |0,l,es,rest=>by
  simp only [pl,Option.some.injEq,Prod.mk.injEq]
  constructor
  ·rintro ⟨rfl,rfl⟩;simp
  ·rintro ⟨h1,_,h3⟩
   obtain rfl:=List.length_eq_zero_iff.1 h1
   simpa using h3
 |k+1,l,es,rest=>by
  simp only [pl]
  constructor
  ·intro h
   split at h
   ·cases h
   ·rename_i key l1 h1
    split at h
    ·cases h
    ·rename_i v l2 h2
     cases h3:pl k l2 with
     |none=>rw [h3] at h;cases h
     |some r=>
      obtain ⟨es',r⟩:=r
      rw [h3] at h
      simp only [Option.map_some,Option.some.injEq,Prod.mk.injEq] at h
      obtain ⟨rfl,rfl⟩:=h
      obtain ⟨g1,g2⟩:=rs_iff.1 h1
      obtain ⟨g3,g4⟩:=rs_iff.1 h2
      obtain ⟨g5,g6,g7⟩:=pl_iff.1 h3
      refine ⟨by simp [g5],?_,?_⟩
      ·intro e he
       rcases List.mem_cons.1 he with rfl|he
       ·exact ⟨g1,g3⟩
       ·exact g6 e he
      ·rw [g2,g4,g7];simp [lent]
  ·rintro ⟨h1,h2,h3⟩
   cases es with
   |nil=>simp at h1
   |cons e es=>
    obtain ⟨key,v⟩:=e
    have he:=h2 (key,v) (by simp)
    rw [show rs l=some (key,shortB v++(es.flatMap lent++rest)) from rs_iff.2 ⟨he.1,by rw [h3];simp [lent]⟩]
    simp only
    rw [show rs (shortB v++(es.flatMap lent++rest))=some (v,es.flatMap lent++rest) from rs_iff.2 ⟨he.2,rfl⟩]
    simp only
    rw [show pl k (es.flatMap lent++rest)=some (es,rest) from pl_iff.2 ⟨by simpa using h1,fun e he=>h2 e (by simp [he]),rfl⟩]
    rfl
theorem pb_iff {most:Nat} (hm:most≤1000000000):∀ {k:Nat} {l:List UInt8} {es:List (List UInt8×Int)} {rest:List UInt8},pb most k l=some (es,rest)↔
  es.length=k∧(∀e∈es,e.1.length≤20000∧0≤e.2∧e.2≤most)∧l=es.flatMap bent++rest
 |0,l,es,rest=>by
  simp only [pb,Option.some.injEq,Prod.mk.injEq]
  constructor
  ·rintro ⟨rfl,rfl⟩;simp
  ·rintro ⟨h1,_,h3⟩
   obtain rfl:=List.length_eq_zero_iff.1 h1
   simpa using h3
 |k+1,l,es,rest=>by
  simp only [pb]
  constructor
  ·intro h
   split at h
   ·cases h
   ·rename_i key l1 h1
    split at h
    ·cases h
    ·rename_i v l2 h2
     split at h
     ·rename_i hv
      cases h3:pb most k l2 with
      |none=>rw [h3] at h;cases h
      |some r=>
       obtain ⟨es',r⟩:=r
       rw [h3] at h
       simp only [Option.map_some,Option.some.injEq,Prod.mk.injEq] at h
       obtain ⟨rfl,rfl⟩:=h
       obtain ⟨g1,g2⟩:=rs_iff.1 h1
       obtain ⟨g3,g4⟩:=rv_iff.1 h2
       obtain ⟨g5,g6,g7⟩:=(pb_iff hm).1 h3
       refine ⟨by simp [g5],?_,?_⟩
       ·intro e he
        rcases List.mem_cons.1 he with rfl|he
        ·exact ⟨g1,by simp,by simp;omega⟩
        ·exact g6 e he
       ·rw [g2,g4,g7];simp [bent]
     ·cases h
  ·rintro ⟨h1,h2,h3⟩
   cases es with
   |nil=>simp at h1
   |cons e es=>
    obtain ⟨key,v⟩:=e
    have he:=h2 (key,v) (by simp)
    simp only at he
    rw [show rs l=some (key,varB v.toNat++(es.flatMap bent++rest)) from rs_iff.2 ⟨he.1,by rw [h3];simp [bent]⟩]
    simp only
    rw [show rv (varB v.toNat++(es.flatMap bent++rest))=some (v.toNat,es.flatMap bent++rest) from rv_iff.2 ⟨by omega,rfl⟩]
    simp only
    rw [if_pos (by omega),show pb most k (es.flatMap bent++rest)=some (es,rest) from (pb_iff hm).2 ⟨by simpa using h1,fun e he=>h2 e (by simp [he]),rfl⟩]
    simp;omega
def leafOf (es:List (List UInt8×List UInt8)):GNode:=⟨true,es.map (·.1),es.map (·.2),[]⟩
def branchOf (es:List (List UInt8×Int)):GNode:=⟨false,es.map (·.1),[],es.map (·.2)⟩
def parseNode (c:UInt8) (b:List UInt8):Option GNode:=
 if c≠108∧c≠98 then none else
 match rv b with
 |none=>none
 |some (k,l)=>if 4<k then none else
  if c=108 then (match pl k l with
   |some (es,[])=>some (leafOf es)
   |_=>none)
  else (match pb 40 k l with
   |some (es,[])=>some (branchOf es)
   |_=>none)
def readBody:List UInt8→Option GNode
 |[]=>none
 |c::b=>match parseNode c b with
  |some n=>if nodeOk n then some n else none
  |none=>none
def readNode (t:List UInt8):Option GNode:=match unsealB t with
 |none=>none
 |some s=>readBody s
theorem zip_fst_snd {α β:Type} (es:List (α×β)):(es.map (·.1)).zip (es.map (·.2))=es:=by
 induction es with
 |nil=>rfl
 |cons e es ih=>simp [ih]
theorem leafOf_zip {n:GNode} (h:n.fVals.length=n.fKeys.length) (h1:n.fLeaf=true) (h2:n.fKids=[]):leafOf (n.fKeys.zip n.fVals)=n:=by
 obtain ⟨a,b,c,d⟩:=n
 simp only at h h1 h2
 subst h1;subst h2
 simp only [leafOf]
 rw [List.map_fst_zip (by omega),List.map_snd_zip (by omega)]
theorem branchOf_zip {n:GNode} (h:n.fKids.length=n.fKeys.length) (h1:¬n.fLeaf=true) (h2:n.fVals=[]):branchOf (n.fKeys.zip n.fKids)=n:=by
 obtain ⟨a,b,c,d⟩:=n
 simp only at h h1 h2
 subst h2
 simp only [branchOf]
 rw [List.map_fst_zip (by omega),List.map_snd_zip (by omega)]
 simp at h1;rw [h1]
theorem nodeBytes_leaf {es:List (List UInt8×List UInt8)}:nodeBytes (leafOf es)=108::(varB es.length++es.flatMap lent):=by
 simp [nodeBytes,leafOf,zip_fst_snd]
theorem nodeBytes_branch {es:List (List UInt8×Int)}:nodeBytes (branchOf es)=98::(varB es.length++es.flatMap bent):=by
 simp [nodeBytes,branchOf,zip_fst_snd]
theorem parseNode_sound {c:UInt8} {b:List UInt8} {n:GNode} (h:parseNode c b=some n):c::b=nodeBytes n:=by
 unfold parseNode at h
 split at h
 ·cases h
 ·rename_i hc
  split at h
  ·cases h
  ·rename_i k l hv
   obtain ⟨_,hb⟩:=rv_iff.1 hv
   split at h
   ·cases h
   ·split at h
    ·rename_i h1
     split at h
     ·rename_i es hp
      obtain rfl:=Option.some.inj h
      obtain ⟨g1,_,g3⟩:=pl_iff.1 hp
      rw [nodeBytes_leaf,g1,h1,hb,g3,List.append_nil]
     ·cases h
    ·rename_i h1
     split at h
     ·rename_i es hp
      obtain rfl:=Option.some.inj h
      obtain ⟨g1,_,g3⟩:=(pb_iff (by omega)).1 hp
      have:c=98:=Decidable.byContradiction fun e=>hc ⟨h1,e⟩
      rw [nodeBytes_branch,g1,this,hb,g3,List.append_nil]
     ·cases h
theorem leaf_read {n:GNode} (hn:nodeOk n) (hl:n.fLeaf=true):
  nodeBytes n=108::(varB n.fKeys.length++(n.fKeys.zip n.fVals).flatMap lent)∧
  rv (varB n.fKeys.length++(n.fKeys.zip n.fVals).flatMap lent)=some (n.fKeys.length,(n.fKeys.zip n.fVals).flatMap lent)∧
  pl n.fKeys.length ((n.fKeys.zip n.fVals).flatMap lent)=some (n.fKeys.zip n.fVals,[])∧leafOf (n.fKeys.zip n.fVals)=n:=by
 obtain ⟨h1,h2,h3,h4,h5⟩:=hn
 rw [if_pos hl] at h5
 refine ⟨by simp [nodeBytes,hl],rv_iff.2 ⟨by omega,rfl⟩,pl_iff.2 ⟨by simp;omega,fun e he=>?_,by simp⟩,leafOf_zip h5.1 hl h5.2.2⟩
 have g1:=h4 e.1 (List.of_mem_zip (a:=e.1) (b:=e.2) he).1
 have g2:=h5.2.1 e.2 (List.of_mem_zip (a:=e.1) (b:=e.2) he).2
 omega
theorem branch_read {n:GNode} (hn:nodeOk n) (hl:¬n.fLeaf=true) {most:Nat} (hm:40≤most∧most≤1000000000):
  nodeBytes n=98::(varB n.fKeys.length++(n.fKeys.zip n.fKids).flatMap bent)∧
  rv (varB n.fKeys.length++(n.fKeys.zip n.fKids).flatMap bent)=some (n.fKeys.length,(n.fKeys.zip n.fKids).flatMap bent)∧
  pb most n.fKeys.length ((n.fKeys.zip n.fKids).flatMap bent)=some (n.fKeys.zip n.fKids,[])∧branchOf (n.fKeys.zip n.fKids)=n:=by
 obtain ⟨h1,h2,h3,h4,h5⟩:=hn
 rw [if_neg hl] at h5
 refine ⟨by simp only [nodeBytes,if_neg hl],rv_iff.2 ⟨by omega,rfl⟩,(pb_iff hm.2).2 ⟨by simp;omega,fun e he=>?_,by simp⟩,branchOf_zip h5.1 hl h5.2.1⟩
 have g1:=h4 e.1 (List.of_mem_zip (a:=e.1) (b:=e.2) he).1
 have g2:=h5.2.2.1 e.2 (List.of_mem_zip (a:=e.1) (b:=e.2) he).2
 omega
theorem readBody_iff {s:List UInt8} {n:GNode}:readBody s=some n↔nodeOk n∧s=nodeBytes n:=by
 constructor
 ·intro h
  cases s with
  |nil=>cases h
  |cons c b=>
   simp only [readBody] at h
   split at h
   ·rename_i m hp
    split at h
    ·rename_i hm
     obtain rfl:=Option.some.inj h
     exact ⟨hm,parseNode_sound hp⟩
    ·cases h
   ·cases h
 ·rintro ⟨hn,rfl⟩
  have hk:n.fKeys.length≤4:=hn.2.1
  by_cases hl:n.fLeaf=true
  ·obtain ⟨g1,g2,g3,g4⟩:=leaf_read hn hl
   rw [g1]
   simp only [readBody,parseNode]
   rw [if_neg (by simp),g2]
   simp only
   rw [if_neg (by omega),if_pos trivial,g3]
   simp only
   rw [g4,if_pos hn]
  ·obtain ⟨g1,g2,g3,g4⟩:=branch_read hn hl (most:=40) (by omega)
   rw [g1]
   simp only [readBody,parseNode]
   rw [if_neg (by simp),g2]
   simp only
   rw [if_neg (by omega),if_neg (by decide),g3]
   simp only
   rw [g4,if_pos hn]
theorem shortB_len {s:List UInt8} (h:s.length≤24):(shortB s).length≤25:=by
 rw [shortB,varB_small (by omega)];simp;omega
theorem varB_len1 {n:Nat} (h:n<128):(varB n).length=1:=by rw [varB_small h];rfl
theorem flatMap_len {α:Type} {f:α→List UInt8} {m:Nat}:∀ {l:List α},(∀e∈l,(f e).length≤m)→(l.flatMap f).length≤l.length*m
 |[],_=>by simp
 |e::l,h=>by
  have h1:=flatMap_len (l:=l) (f:=f) (m:=m) fun e he=>h e (by simp [he])
  have h2:=h e (by simp)
  simp only [List.flatMap_cons,List.length_append,List.length_cons,Nat.succ_mul]
  omega
theorem nodeBytes_len {n:GNode} (hn:nodeOk n):(nodeBytes n).length≤202:=by
 obtain ⟨h1,h2,h3,h4,h5⟩:=hn
 unfold nodeBytes
 simp only [List.length_cons,List.length_append]
 rw [varB_len1 (by omega)]
 split at h5
 ·rename_i hl
  rw [if_pos hl]
  have:((n.fKeys.zip n.fVals).flatMap lent).length≤(n.fKeys.zip n.fVals).length*50:=flatMap_len fun e he=>by
   have g1:=shortB_len (h4 e.1 (List.of_mem_zip (a:=e.1) (b:=e.2) he).1)
   have g2:=shortB_len (h5.2.1 e.2 (List.of_mem_zip (a:=e.1) (b:=e.2) he).2)
   simp only [lent,List.length_append];omega
  simp only [List.length_zip] at this
  omega
 ·rename_i hl
  rw [if_neg hl]
  have:((n.fKeys.zip n.fKids).flatMap bent).length≤(n.fKeys.zip n.fKids).length*50:=flatMap_len fun e he=>by
   have g1:=shortB_len (h4 e.1 (List.of_mem_zip (a:=e.1) (b:=e.2) he).1)
   have g2:=h5.2.2.1 e.2 (List.of_mem_zip (a:=e.1) (b:=e.2) he).2
   have g3:=varB_len1 (n:=e.2.toNat) (by omega)
   simp only [bent,List.length_append];omega
  simp only [List.length_zip] at this
  omega
theorem readNode_iff {t:List UInt8} {n:GNode}:readNode t=some n↔nodeOk n∧t=nodeText n:=by
 unfold readNode
 constructor
 ·intro h
  split at h
  ·cases h
  ·rename_i s hs
   obtain ⟨h1,h2⟩:=readBody_iff.1 h
   obtain ⟨_,h4⟩:=unseal_iff.1 hs
   exact ⟨h1,by rw [h4,h2,nodeText]⟩
 ·rintro ⟨hn,rfl⟩
  have hl:=nodeBytes_len hn
  rw [show unsealB (nodeText n)=some (nodeBytes n) from unseal_iff.2 ⟨by omega,rfl⟩]
  exact readBody_iff.2 ⟨hn,rfl⟩
def looseNode (c:UInt8) (b:List UInt8):Option GNode:=match rv b with
 |none=>none
 |some (k,l)=>if c=108 then (pl (min k 10) l).map fun r=>leafOf r.1 else (pb 1000000000 (min k 10) l).map fun r=>branchOf r.1
theorem loose_eq {t:List UInt8} {c:UInt8} {b:List UInt8} (hs:unsealB t=some (c::b)):
  readNode t=match looseNode c b with
   |none=>none
   |some n=>if nodeOk n∧nodeText n=t then some n else none:=by
 have key:∀n,readNode t=some n→looseNode c b=some n:=by
  intro n hn
  obtain ⟨h1,h2⟩:=readNode_iff.1 hn
  obtain ⟨_,h4⟩:=unseal_iff.1 hs
  have e:c::b=nodeBytes n:=by
   have hb:=nodeBytes_len h1
   have:=(unseal_iff (t:=t) (b:=nodeBytes n)).2 ⟨by omega,h2⟩
   rw [hs] at this;exact Option.some.inj this
  have hk:n.fKeys.length≤4:=h1.2.1
  by_cases hl:n.fLeaf=true
  ·obtain ⟨g1,g2,g3,g4⟩:=leaf_read h1 hl
   rw [g1] at e
   obtain ⟨rfl,rfl⟩:=List.cons.inj e
   rw [looseNode,g2]
   simp only
   rw [if_pos trivial,Nat.min_eq_left (by omega),g3]
   simp [g4]
  ·obtain ⟨g1,g2,g3,g4⟩:=branch_read h1 hl (most:=1000000000) (by omega)
   rw [g1] at e
   obtain ⟨rfl,rfl⟩:=List.cons.inj e
   rw [looseNode,g2]
   simp only
   rw [if_neg (by decide),Nat.min_eq_left (by omega),g3]
   simp [g4]
 cases hr:readNode t with
 |some n=>rw [key n hr];simp only;rw [if_pos];obtain ⟨h1,h2⟩:=readNode_iff.1 hr;exact ⟨h1,h2.symm⟩
 |none=>
  cases hl:looseNode c b with
  |none=>rfl
  |some n=>
   simp only
   rw [if_neg]
   rintro ⟨h1,h2⟩
   rw [readNode_iff.2 ⟨h1,h2.symm⟩] at hr
   cases hr
end Go.Rx
namespace Go.Rx
open Go
def isPage (d:GDisk) (p:Int):Prop:=0≤p∧p≤(d.fPages.length:Int) - 1
instance {d:GDisk} {p:Int}:Decidable (isPage d p):=by unfold isPage;infer_instance
def lateText (l:List GPut) (p:Int):Option (List UInt8):=(l.reverse.find? fun q=>decide (q.fPage=p)).map (·.fText)
theorem lateText_nil {p:Int}:lateText [] p=none:=rfl
theorem lateText_snoc {l:List GPut} {q:GPut} {p:Int}:lateText (l++[q]) p=if q.fPage=p then some q.fText else lateText l p:=by
 simp only [lateText,List.reverse_append,List.reverse_cons,List.reverse_nil,List.nil_append,List.cons_append,List.find?_cons]
 by_cases h:q.fPage=p<;>simp [h]
def readPage (d:GDisk) (p:Int):List UInt8:=if isPage d p then (lateText d.fLate p).getD (d.fPages.getD p.toNat []) else []
structure Tr where
 pages:List Int
 pairs:List GPair
 deeps:List Int
 order:Bool
 bad:Bool
 deriving Inhabited
def Tr.new:Tr:=⟨[],[],[],true,false⟩
def Tr.ord (t:Tr) (o:Bool):Tr:=⟨t.pages,t.pairs,t.deeps,o,t.bad⟩
def pairOf (e:List UInt8×List UInt8):GPair:=⟨e.1,e.2⟩
def pairsOf (n:GNode):List GPair:=(n.fKeys.zip n.fVals).map pairOf
def keyBelow (l:List GPair) (k:List UInt8):Bool:=l.any fun p=>bLess p.fKey k
def keyFrom (l:List GPair) (k:List UInt8):Bool:=l.any fun p=> !bLess p.fKey k
def kidsI (rec:Int→Tr→Tr) (first:Nat):List (List UInt8×Int)→Tr→Tr
 |[],t=>t
 |(k,c)::l,t=>
  if (rec c t).bad=true then rec c t else
  kidsI rec first l ((rec c t).ord ((rec c t).order&&(!keyBelow ((rec c t).pairs.drop t.pairs.length) k&& !keyFrom (((rec c t).pairs.take t.pairs.length).drop first) k)))
def downI (d:GDisk):Nat→Int→Tr→Tr
 |0,_,t=> {t with bad:=true}
 |f+1,page,t=>match readNode (readPage d page) with
  |none=> {t with bad:=true}
  |some n=>if t.bad=true∨page∈t.pages then {t with bad:=true} else
   if n.fLeaf=true then {t with pages:=t.pages++[page],deeps:=t.deeps++[8 - (f:Int)],pairs:=t.pairs++pairsOf n}
   else kidsI (downI d f) t.pairs.length (n.fKeys.zip n.fKids) {t with pages:=t.pages++[page]}
def treeOf (d:GDisk) (root:Int):Tr:=if root=0 then Tr.new else downI d 8 root Tr.new
def allPairs (d:GDisk) (root:Int):Option (List GPair):=if (treeOf d root).bad=true then none else some (treeOf d root).pairs
structure Al where
 pairs:List GPair
 pages:List Int
 deeps:List Int
 bad:Bool
 loose:Bool
 deriving Inhabited
def Al.new:Al:=⟨[],[],[],false,false⟩
def leafS (low high:List UInt8) (has:Bool):List (List UInt8×List UInt8)→Al→Al
 |[],a=>a
 |(k,v)::l,a=>leafS low high has l {a with loose:=a.loose||(bLess k low||(has&& !bLess k high)),pairs:=a.pairs++[⟨k,v⟩]}
def lowS (low k:List UInt8):List UInt8:=if bLess low k=true then k else low
def capS (high:List UInt8) (has:Bool):List (List UInt8×Int)→Bool
 |(k2,_)::_=> !has||bLess k2 high
 |[]=>false
def highS (high:List UInt8) (has:Bool) (l:List (List UInt8×Int)):List UInt8:=if capS high has l=true then (l.head?.map (·.1)).getD [] else high
def moreS (high:List UInt8) (has:Bool) (l:List (List UInt8×Int)):Bool:=if capS high has l=true then true else has
def kidsS (rec:Int→List UInt8→List UInt8→Bool→Al→Al) (low high:List UInt8) (has:Bool):List (List UInt8×Int)→Al→Al
 |[],a=>a
 |(k,c)::l,a=>kidsS rec low high has l (rec c (lowS low k) (highS high has l) (moreS high has l) a)
def walkS (d:GDisk):Nat→Int→List UInt8→List UInt8→Bool→Al→Al
 |0,_,_,_,_,a=> {a with bad:=true}
 |f+1,page,low,high,has,a=>match readNode (readPage d page) with
  |none=> {a with bad:=true}
  |some n=>if page∈a.pages∨a.bad=true then {a with bad:=true} else
   if n.fLeaf=true then
    {leafS low high has (n.fKeys.zip n.fVals) {a with pages:=a.pages++[page]} with deeps:=(leafS low high has (n.fKeys.zip n.fVals) {a with pages:=a.pages++[page]}).deeps++[7 - (f:Int)]}
   else kidsS (walkS d f) low high has (n.fKeys.zip n.fKids) {a with pages:=a.pages++[page]}
def lookS (d:GDisk) (root:Int):Al:=if root=0 then Al.new else walkS d 8 root [] [] false Al.new
def Same (t:Tr) (a:Al):Prop:=t.bad=a.bad∧(a.bad=false→t.pages=a.pages∧t.pairs=a.pairs∧t.deeps=a.deeps.map (·+1))
theorem leafS_eq {low high:List UInt8} {has:Bool}:∀ {l:List (List UInt8×List UInt8)} {a:Al},leafS low high has l a=
  {a with pairs:=a.pairs++l.map pairOf,loose:=a.loose||l.any fun e=>bLess e.1 low||(has&& !bLess e.1 high)}
 |[],a=>by simp [leafS]
 |(k,v)::l,a=>by
  rw [leafS,leafS_eq]
  simp [pairOf,Bool.or_assoc]
theorem walkS_bad {d:GDisk}:∀ {f:Nat} {page:Int} {low high:List UInt8} {has:Bool} {a:Al},a.bad=true→(walkS d f page low high has a).bad=true
 |0,_,_,_,_,_,_=>rfl
 |f+1,page,low,high,has,a,h=>by
  rw [walkS]
  split
  ·rfl
  ·rw [if_pos (.inr h)]
theorem kidsS_bad {rec:Int→List UInt8→List UInt8→Bool→Al→Al} (hr:∀c lo hi has a,a.bad=true→(rec c lo hi has a).bad=true) {low high:List UInt8} {has:Bool}:
  ∀ {l:List (List UInt8×Int)} {a:Al},a.bad=true→(kidsS rec low high has l a).bad=true
 |[],_,h=>h
 |(k,c)::l,a,h=>by rw [kidsS];exact kidsS_bad hr (hr _ _ _ _ _ h)
theorem kids_same {rt:Int→Tr→Tr} {ra:Int→List UInt8→List UInt8→Bool→Al→Al} (hr:∀c lo hi has t a,Same t a→Same (rt c t) (ra c lo hi has a))
  (hb:∀c lo hi has a,a.bad=true→(ra c lo hi has a).bad=true) {first:Nat} {low high:List UInt8} {has:Bool}:
  ∀ {l:List (List UInt8×Int)} {t:Tr} {a:Al},Same t a→Same (kidsI rt first l t) (kidsS ra low high has l a)
 |[],_,_,h=>h
 |(k,c)::l,t,a,h=>by
  rw [kidsI,kidsS]
  have h1:=hr c (lowS low k) (highS high has l) (moreS high has l) t a h
  split
  ·rename_i hbad
   have h2:(ra c (lowS low k) (highS high has l) (moreS high has l) a).bad=true:=by rw [←h1.1];exact hbad
   have h3:=kidsS_bad hb (low:=low) (high:=high) (has:=has) (l:=l) h2
   exact ⟨by rw [hbad,h3],fun e=>by rw [h3] at e;cases e⟩
  ·exact kids_same hr hb ⟨h1.1,h1.2⟩
theorem walk_same {d:GDisk}:∀ {f:Nat} {page:Int} {low high:List UInt8} {has:Bool} {t:Tr} {a:Al},Same t a→Same (downI d f page t) (walkS d f page low high has a)
 |0,_,_,_,_,_,_,_=>⟨rfl,fun e=>by cases e⟩
 |f+1,page,low,high,has,t,a,h=>by
  rw [downI,walkS]
  cases hn:readNode (readPage d page) with
  |none=>exact ⟨rfl,fun e=>by cases e⟩
  |some n=>
   simp only
   by_cases hb:a.bad=true
   ·rw [if_pos (.inl (h.1.trans hb)),if_pos (.inr hb)]
    exact ⟨rfl,fun e=>by cases e⟩
   ·have hbf:a.bad=false:=by simpa using hb
    obtain ⟨e1,e2,e3⟩:=h.2 hbf
    have htb:t.bad=false:=h.1.trans hbf
    by_cases hp:page∈a.pages
    ·rw [if_pos (.inr (by rw [e1];exact hp)),if_pos (.inl hp)]
     exact ⟨rfl,fun e=>by cases e⟩
    ·rw [if_neg (c:=t.bad=true∨page∈t.pages) (by rw [htb,e1];simpa using hp),if_neg (c:=page∈a.pages∨a.bad=true) (by rw [hbf];simpa using hp)]
     split
     ·rw [leafS_eq]
      refine ⟨h.1,fun _=>⟨?_,?_,?_⟩⟩
      ·simp only;rw [e1]
      ·simp only [pairsOf];rw [e2]
      ·simp only [List.map_append,List.map_cons,List.map_nil];rw [e3];congr 2;omega
     ·exact kids_same (rt:=downI d f) (ra:=walkS d f) (fun c lo hi hs t a h=>walk_same h) (fun c lo hi hs a h=>walkS_bad h) ⟨h.1,fun _=>⟨by rw [←e1],e2,e3⟩⟩
theorem look_same {d:GDisk} {root:Int}:Same (treeOf d root) (lookS d root):=by
 unfold treeOf lookS
 split
 ·exact ⟨rfl,fun _=>⟨rfl,rfl,rfl⟩⟩
 ·exact walk_same ⟨rfl,fun _=>⟨rfl,rfl,rfl⟩⟩
theorem allPairs_look {d:GDisk} {root:Int}:allPairs d root=if (lookS d root).bad=true then none else some (lookS d root).pairs:=by
 have h:=look_same (d:=d) (root:=root)
 unfold allPairs
 rw [h.1]
 split
 ·rfl
 ·rename_i hb
  rw [(h.2 (by simpa using hb)).2.1]
end Go.Rx
namespace Go.Rx
open Go
def diskOk (d:GDisk):Prop:=
 4≤d.fPages.length∧d.fPages.length≤40∧d.fLate.length≤200∧(∀s∈d.fPages,s.length≤240)∧∀p∈d.fLate,isPage d p.fPage∧p.fText.length≤240
instance {d:GDisk}:Decidable (diskOk d):=by unfold diskOk;infer_instance
def writePage (d:GDisk) (p:Int) (t:List UInt8):Option GDisk:=
 if diskOk d∧isPage d p∧t.length≤240∧d.fLate.length<200 then some {d with fLate:=d.fLate++[⟨p,t⟩]} else none
end Go.Rx
namespace Go.Rx
open Go
theorem ofInt_nat {w n:Nat}:BitVec.ofInt w (n:Int)=BitVec.ofNat w n:=BitVec.ofInt_natCast w n
theorem wrap_nat {n:Nat} (h:n<9223372036854775808):IntKind.i64.wrap (n:Int)=n:=wrap_int (by omega) (by omega)
theorem wrap32 {n:Nat} (h:n<4294967296):IntKind.u32.wrap (n:Int)=n:=by
 simp [IntKind.wrap,IntKind.bits,IntKind.signed];omega
theorem wrap8 {n:Nat}:IntKind.u8.wrap (n:Int)=((n%256:Nat):Int):=by
 simp [IntKind.wrap,IntKind.bits,IntKind.signed]
theorem xor32 {a b:Nat} (ha:a<4294967296) (hb:b<4294967296):bXor .u32 (a:Int) (b:Int)=((a ^^^ b:Nat):Int):=by
 show IntKind.u32.wrap (((BitVec.ofInt 32 (a:Int) ^^^ BitVec.ofInt 32 (b:Int)).toNat:Nat):Int)=_
 rw [ofInt_nat,ofInt_nat,BitVec.toNat_xor,BitVec.toNat_ofNat,BitVec.toNat_ofNat,Nat.mod_eq_of_lt (by omega),Nat.mod_eq_of_lt (by omega)]
 exact wrap32 (Nat.xor_lt_two_pow (n:=32) ha hb)
theorem shr32 {a:Nat} {k:Nat} (hk:k≤32):bShr .u32 (a:Int) (k:Int)=((a / 2 ^ k:Nat):Int):=by
 show (a:Int).fdiv (2 ^ min ((k:Int).toNat) 32)=_
 rw [Int.toNat_natCast,Nat.min_eq_left hk,Int.fdiv_eq_ediv_of_nonneg _ (by exact_mod_cast Nat.zero_le _)]
 norm_cast
theorem byteCell_of {n:Nat}:[D.int .u8 (IntKind.u8.wrap (n:Int))]=byteCell (UInt8.ofNat n):=by
 rw [wrap8];simp [byteCell]
theorem byteOf_cell {x:UInt8}:byteOf (byteCell x)=x:=by simp [byteOf,byteCell]
theorem byteOf_map {l:List UInt8}:(l.map byteCell).map byteOf=l:=by
 rw [List.map_map]
 conv=>rhs;rw [←List.map_id l]
 exact List.map_congr_left fun x _=>byteOf_cell
theorem bys_back {l:List UInt8}:((bys l).map byteOf).map byteCell=bys l:=by rw [bys,byteOf_map]
theorem bys_str {l:List UInt8}:(bys l).map byteOf=l:=byteOf_map
theorem getD_some {α:Type} {l:List α} {i:Nat} {p d:α} (h:l[i]? =some p):l.getD i d=p:=by simp [List.getD,h]
end Go.Rx
namespace Go.Rx
theorem varB_len:∀ {k n:Nat},n<128 ^ (k+1)→(varB n).length≤k+1
 |0,n,h=>by rw [varB_small (by omega)];simp
 |k+1,n,h=>by
  by_cases hn:n<128
  ·rw [varB_small hn];simp
  ·rw [varB_big hn,List.length_cons]
   have:=varB_len (k:=k) (n:=n / 128) (Nat.div_lt_of_lt_mul (by rw [Nat.pow_succ,Nat.mul_comm] at h;exact h))
   omega
theorem varB_len9 {n:Nat} (h:n<9223372036854775808):(varB n).length≤9:=varB_len (k:=8) (by omega)
theorem varB_step {out:List UInt8} {m:Nat} (h:¬m<128):(out++[UInt8.ofNat ((m%128)+128)])++varB (m / 128)=out++varB m:=by
 rw [varB_big h];simp
end Go.Rx
namespace Go.Rx
theorem bys_back' {l:List UInt8}:(l.map byteCell)=bys l:=rfl
end Go.Rx
namespace Go.Rx
attribute [go_sem] bys_back' bys_str byteCell_of
end Go.Rx
namespace Go.Rx
theorem toNat_lit (n:Nat):Int.toNat (OfNat.ofNat n)=OfNat.ofNat n:=rfl
attribute [go_sem] Int.toNat_zero toNat_lit
end Go.Rx
namespace Go.Rx
def idxF {α:Type} (g:α→Bool) (l:List α):Int:=match l.findIdx? g with|some i=>(i:Int)|none=> -1
theorem idxF_none {α:Type} {g:α→Bool} {l:List α} (h:∀q∈l,g q=false):idxF g l= -1:=by
 have:l.findIdx? g=none:=by rw [List.findIdx?_eq_none_iff];exact h
 rw [idxF,this]
theorem idxF_step {α:Type} {g:α→Bool} {l:List α} {i:Nat} {p:α} (hp:l[i]? =some p) (h:∀q∈l.take i,g q=false) (hg:g p=true):idxF g l=i:=by
 obtain ⟨hi,hpe⟩:=List.getElem?_eq_some_iff.1 hp
 have:l.findIdx? g=some i:=by
  rw [List.findIdx?_eq_some_iff_getElem]
  refine ⟨hi,by rw [hpe];exact hg,fun j hj=>?_⟩
  have:=h l[j] (by rw [List.mem_take_iff_getElem];exact ⟨j,by omega,rfl⟩)
  simp [this]
 rw [idxF,this]
theorem idxF_any {α:Type} {g:α→Bool} {l:List α}:decide (0≤idxF g l)=l.any g:=by
 unfold idxF
 cases h:l.findIdx? g with
 |none=>
  rw [List.findIdx?_eq_none_iff] at h
  have:l.any g=false:=by rw [List.any_eq_false];intro x hx;simp [h x hx]
  rw [this];simp
 |some i=>
  rw [List.findIdx?_eq_some_iff_getElem] at h
  obtain ⟨hi,hg,_⟩:=h
  have:l.any g=true:=List.any_eq_true.2 ⟨l[i],List.getElem_mem hi,hg⟩
  rw [this];simp
theorem asc_next {l:List (List UInt8)} {i:Nat} {p q:List UInt8} (h:ascK l) (hp:l[i]? =some p) (hq:l[i+1]? =some q):bLess p q=true:=by
 obtain ⟨h1,e1⟩:=List.getElem?_eq_some_iff.1 hp
 obtain ⟨h2,e2⟩:=List.getElem?_eq_some_iff.1 hq
 have:=List.pairwise_iff_getElem.1 h i (i+1) h1 h2 (by omega)
 rw [e1,e2] at this;exact this
end Go.Rx
namespace Go.Rx
theorem ascK_snoc {l:List (List UInt8)} {i:Nat} {p q:List UInt8} (h:ascK (l.take (i+1))) (hp:l[i]? =some p) (hq:l[i+1]? =some q) (hlt:bLess p q=true):ascK (l.take (i+2)):=by
 rw [take_snoc hq]
 refine List.pairwise_append.2 ⟨h,by simp,fun a ha b hb=>?_⟩
 simp at hb;subst hb
 rw [take_snoc hp] at ha h
 rcases List.mem_append.1 ha with ha|ha
 ·exact bLess_trans ((List.pairwise_append.1 h).2.2 a ha p (by simp)) hlt
 ·simp at ha;subst ha;exact hlt
theorem nodeOk_leaf {n:GNode} (h:n.fLeaf=true):nodeOk n↔(1≤n.fKeys.length∧n.fKeys.length≤4)∧ascK n.fKeys∧(∀k∈n.fKeys,k.length≤24)∧n.fVals.length=n.fKeys.length∧(∀v∈n.fVals,v.length≤24)∧n.fKids.length=0:=by
 simp only [nodeOk,h,if_true,List.length_eq_zero_iff,and_assoc]
theorem nodeOk_branch {n:GNode} (h:n.fLeaf=false):nodeOk n↔(1≤n.fKeys.length∧n.fKeys.length≤4)∧ascK n.fKeys∧(∀k∈n.fKeys,k.length≤24)∧n.fKids.length=n.fKeys.length∧n.fVals.length=0∧(∀k∈n.fKids,2≤k∧k≤39)∧n.fKids.Nodup:=by
 simp [nodeOk,h,List.length_eq_zero_iff,and_assoc]
theorem nodup_snoc {α:Type} {l:List α} {i:Nat} {p:α} (h:l[i]? =some p) (hn:(l.take i).Nodup) (hp:p∉l.take i):(l.take (i+1)).Nodup:=by
 rw [take_snoc h]
 exact List.nodup_append.2 ⟨hn,by simp,fun a ha b hb=>by simp at hb;subst hb;exact fun e=>hp (e▸ha)⟩
theorem mem_takeS {α:Type} {l:List α} {i:Nat} {p q:α} (h:l[i]? =some p) (hq:q∈l.take (i+1)):q∈l.take i∨q=p:=by
 rw [take_snoc h] at hq;simpa using hq
end Go.Rx
namespace Go.Rx
theorem zip_at {α β:Type} {l:List α} {m:List β} {i:Nat} {p:α} {q:β} (hp:l[i]? =some p) (hq:m[i]? =some q):(l.zip m)[i]? =some (p,q):=by
 rw [List.getElem?_zip_eq_some];exact ⟨hp,hq⟩
end Go.Rx
namespace Go.Rx
open Go
def rdV (t:List UInt8) (most:Int) (r:Nat×Bool):Nat×(Nat×Bool):=match readVar t r.1 with
 |some (n,a)=>if r.2=true∨most<n then (0,(r.1,true)) else (n,(a,false))
 |none=>(0,(r.1,true))
def rdT (t:List UInt8) (r:Nat×Bool):List UInt8×(Nat×Bool):=match readShort t r.1 with
 |some (s,a)=>if r.2=true then ([],(r.1,true)) else (s,(a,false))
 |none=>([],(r.1,true))
def sfx (t:List UInt8) (r:Nat×Bool):Option (List UInt8):=if r.2=true then none else some (t.drop r.1)
theorem rdV_le {t:List UInt8} {m:Int} {r:Nat×Bool} (h:r.1≤t.length):(rdV t m r).2.1≤t.length:=by
 unfold rdV
 split
 ·rename_i n a hv
  split
  ·exact h
  ·exact (readVar_lt hv).2.1
 ·exact h
theorem rdT_le {t:List UInt8} {r:Nat×Bool} (h:r.1≤t.length):(rdT t r).2.1≤t.length:=by
 unfold rdT
 split
 ·rename_i n a hv
  split
  ·exact h
  ·exact (readShort_lt hv).2.1
 ·exact h
theorem rdV_sfx {t:List UInt8} {most:Nat} {r:Nat×Bool} (h:r.1≤t.length):match sfx t r with
  |none=>(rdV t most r).1=0∧sfx t (rdV t most r).2=none
  |some l=>match rv l with
   |none=>(rdV t most r).1=0∧sfx t (rdV t most r).2=none
   |some (n,l2)=>if n≤most then (rdV t most r).1=n∧sfx t (rdV t most r).2=some l2 else (rdV t most r).1=0∧sfx t (rdV t most r).2=none:=by
 obtain ⟨a,b⟩:=r
 simp only at h
 have hs:readVar t (a:Int)=(rv (t.drop a)).map fun r=>(r.1,t.length - r.2.length):=by
  unfold readVar;rw [if_pos (by omega),Int.toNat_natCast]
 unfold sfx rdV
 simp only
 rw [hs]
 cases b with
 |true=>
  simp only [if_true]
  cases rv (t.drop a) with
  |none=>exact ⟨rfl,rfl⟩
  |some p=>exact ⟨by simp,by simp⟩
 |false=>
  simp only [Bool.false_eq_true,if_false,false_or]
  cases hv:rv (t.drop a) with
  |none=>exact ⟨rfl,rfl⟩
  |some p=>
   obtain ⟨n,l2⟩:=p
   simp only [Option.map_some]
   obtain ⟨_,h2⟩:=rv_iff.1 hv
   obtain ⟨h3,_,_⟩:=suffix_drop h2 h
   by_cases hn:n≤most
   ·rw [if_pos hn,if_neg (by omega)]
    exact ⟨rfl,by simp only [Bool.false_eq_true,if_false];rw [←h3]⟩
   ·rw [if_neg hn,if_pos (by omega)]
    exact ⟨rfl,rfl⟩
theorem rdT_sfx {t:List UInt8} {r:Nat×Bool} (h:r.1≤t.length):match sfx t r with
  |none=>(rdT t r).1=[]∧sfx t (rdT t r).2=none
  |some l=>match rs l with
   |none=>(rdT t r).1=[]∧sfx t (rdT t r).2=none
   |some (s,l2)=>(rdT t r).1=s∧sfx t (rdT t r).2=some l2:=by
 obtain ⟨a,b⟩:=r
 simp only at h
 have hs:readShort t (a:Int)=(rs (t.drop a)).map fun p=>(p.1,t.length - p.2.length):=by
  cases hv:rs (t.drop a) with
  |some p=>
   obtain ⟨s,l2⟩:=p
   obtain ⟨h1,h2⟩:=rs_iff.1 hv
   obtain ⟨h3,h4,h5⟩:=suffix_drop h2 h
   exact (readShort_some h).2 ⟨h1,by rw [←h3];exact h2,h4,by simp only;omega⟩
  |none=>
   cases hr:readShort t (a:Int) with
   |none=>rfl
   |some p=>
    obtain ⟨s,b⟩:=p
    obtain ⟨h1,h2,_,_⟩:=(readShort_some h).1 hr
    rw [rs_iff.2 ⟨h1,h2⟩] at hv;cases hv
 unfold sfx rdT
 simp only
 rw [hs]
 cases b with
 |true=>
  simp only [if_true]
  cases rs (t.drop a) with
  |none=>exact ⟨rfl,rfl⟩
  |some p=>exact ⟨rfl,rfl⟩
 |false=>
  simp only [Bool.false_eq_true,if_false]
  cases hv:rs (t.drop a) with
  |none=>exact ⟨rfl,rfl⟩
  |some p=>
   obtain ⟨s,l2⟩:=p
   obtain ⟨_,h2⟩:=rs_iff.1 hv
   obtain ⟨h3,_,_⟩:=suffix_drop h2 h
   exact ⟨rfl,by simp only [Option.map_some,Bool.false_eq_true,if_false];rw [←h3]⟩
def rdL (t:List UInt8) (r:Nat×Bool):(List UInt8×List UInt8)×(Nat×Bool):=(((rdT t r).1,(rdT t (rdT t r).2).1),(rdT t (rdT t r).2).2)
def rdB (t:List UInt8) (most:Int) (r:Nat×Bool):(List UInt8×Int)×(Nat×Bool):=(((rdT t r).1,((rdV t most (rdT t r).2).1:Int)),(rdV t most (rdT t r).2).2)
def rdLs (t:List UInt8):Nat→Nat×Bool→List (List UInt8×List UInt8)×(Nat×Bool)
 |0,r=>([],r)
 |k+1,r=>((rdL t r).1::(rdLs t k (rdL t r).2).1,(rdLs t k (rdL t r).2).2)
def rdBs (t:List UInt8) (most:Int):Nat→Nat×Bool→List (List UInt8×Int)×(Nat×Bool)
 |0,r=>([],r)
 |k+1,r=>((rdB t most r).1::(rdBs t most k (rdB t most r).2).1,(rdBs t most k (rdB t most r).2).2)
theorem rdL_le {t:List UInt8} {r:Nat×Bool} (h:r.1≤t.length):(rdL t r).2.1≤t.length:=rdT_le (rdT_le h)
theorem rdB_le {t:List UInt8} {m:Int} {r:Nat×Bool} (h:r.1≤t.length):(rdB t m r).2.1≤t.length:=rdV_le (rdT_le h)
theorem rdLs_bad {t:List UInt8}:∀ {k:Nat} {r:Nat×Bool},r.1≤t.length→sfx t r=none→sfx t (rdLs t k r).2=none
 |0,_,_,h=>h
 |k+1,r,hl,h=>by
  have h1:=rdT_sfx hl
  rw [h] at h1
  simp only at h1
  have h2:=rdT_sfx (rdT_le hl)
  rw [h1.2] at h2
  exact rdLs_bad (k:=k) (r:=(rdL t r).2) (rdL_le hl) h2.2
theorem rdBs_bad {t:List UInt8} {most:Nat}:∀ {k:Nat} {r:Nat×Bool},r.1≤t.length→sfx t r=none→sfx t (rdBs t most k r).2=none
 |0,_,_,h=>h
 |k+1,r,hl,h=>by
  have h1:=rdT_sfx hl
  rw [h] at h1
  simp only at h1
  have h2:=rdV_sfx (most:=most) (rdT_le hl)
  rw [h1.2] at h2
  exact rdBs_bad (k:=k) (r:=(rdB t most r).2) (rdB_le hl) h2.2
theorem rdLs_pl {t:List UInt8}:∀ {k:Nat} {r:Nat×Bool} {l:List UInt8},r.1≤t.length→sfx t r=some l→match pl k l with
  |none=>sfx t (rdLs t k r).2=none
  |some (es,rest)=>(rdLs t k r).1=es∧sfx t (rdLs t k r).2=some rest
 |0,r,l,_,h=>⟨rfl,h⟩
 |k+1,r,l,hl,h=>by
  have h1:=rdT_sfx hl
  rw [h] at h1
  simp only at h1
  have h2:=rdT_sfx (rdT_le hl)
  simp only [pl]
  cases e1:rs l with
  |none=>
   rw [e1] at h1
   rw [h1.2] at h2
   exact rdLs_bad (k:=k) (r:=(rdL t r).2) (rdL_le hl) h2.2
  |some p=>
   obtain ⟨key,l1⟩:=p
   rw [e1] at h1
   rw [h1.2] at h2
   simp only
   simp only at h2
   cases e2:rs l1 with
   |none=>
    rw [e2] at h2
    exact rdLs_bad (k:=k) (r:=(rdL t r).2) (rdL_le hl) h2.2
   |some p=>
    obtain ⟨v,l2⟩:=p
    rw [e2] at h2
    simp only
    have h3:=rdLs_pl (k:=k) (rdL_le hl) (show sfx t (rdL t r).2=some l2 from h2.2)
    cases e3:pl k l2 with
    |none=>rw [e3] at h3;exact h3
    |some p=>
     obtain ⟨es,rest⟩:=p
     rw [e3] at h3
     refine ⟨?_,h3.2⟩
     simp only [rdLs,rdL]
     rw [h1.1,h2.1]
     congr 1
     exact h3.1
theorem rdBs_pb {t:List UInt8} {most:Nat}:∀ {k:Nat} {r:Nat×Bool} {l:List UInt8},r.1≤t.length→sfx t r=some l→match pb most k l with
  |none=>sfx t (rdBs t most k r).2=none
  |some (es,rest)=>(rdBs t most k r).1=es∧sfx t (rdBs t most k r).2=some rest
 |0,r,l,_,h=>⟨rfl,h⟩
 |k+1,r,l,hl,h=>by
  have h1:=rdT_sfx hl
  rw [h] at h1
  simp only at h1
  have h2:=rdV_sfx (most:=most) (rdT_le hl)
  simp only [pb]
  cases e1:rs l with
  |none=>
   rw [e1] at h1
   rw [h1.2] at h2
   exact rdBs_bad (k:=k) (r:=(rdB t most r).2) (rdB_le hl) h2.2
  |some p=>
   obtain ⟨key,l1⟩:=p
   rw [e1] at h1
   rw [h1.2] at h2
   simp only
   simp only at h2
   cases e2:rv l1 with
   |none=>
    rw [e2] at h2
    exact rdBs_bad (k:=k) (r:=(rdB t most r).2) (rdB_le hl) h2.2
   |some p=>
    obtain ⟨v,l2⟩:=p
    rw [e2] at h2
    simp only
    simp only at h2
    by_cases hv:v≤most
    ·rw [if_pos hv] at h2
     rw [if_pos hv]
     have h3:=rdBs_pb (most:=most) (k:=k) (rdB_le hl) (show sfx t (rdB t most r).2=some l2 from h2.2)
     cases e3:pb most k l2 with
     |none=>rw [e3] at h3;exact h3
     |some p=>
      obtain ⟨es,rest⟩:=p
      rw [e3] at h3
      refine ⟨?_,h3.2⟩
      simp only [rdBs,rdB]
      rw [h1.1,h2.1]
      congr 1
      exact h3.1
    ·rw [if_neg hv] at h2
     rw [if_neg hv]
     exact rdBs_bad (k:=k) (r:=(rdB t most r).2) (rdB_le hl) h2.2
theorem rdLs_snoc {t:List UInt8}:∀ {k:Nat} {r:Nat×Bool},rdLs t (k+1) r=((rdLs t k r).1++[(rdL t (rdLs t k r).2).1],(rdL t (rdLs t k r).2).2)
 |0,r=>rfl
 |k+1,r=>by rw [rdLs,rdLs_snoc];rfl
theorem rdBs_snoc {t:List UInt8} {most:Int}:∀ {k:Nat} {r:Nat×Bool},rdBs t most (k+1) r=((rdBs t most k r).1++[(rdB t most (rdBs t most k r).2).1],(rdB t most (rdBs t most k r).2).2)
 |0,r=>rfl
 |k+1,r=>by rw [rdBs,rdBs_snoc];rfl
theorem rdLs_len {t:List UInt8}:∀ {k:Nat} {r:Nat×Bool},(rdLs t k r).1.length=k
 |0,_=>rfl
 |k+1,r=>by simp [rdLs,rdLs_len]
theorem rdBs_len {t:List UInt8} {most:Int}:∀ {k:Nat} {r:Nat×Bool},(rdBs t most k r).1.length=k
 |0,_=>rfl
 |k+1,r=>by simp [rdBs,rdBs_len]
theorem rdLs_le {t:List UInt8}:∀ {k:Nat} {r:Nat×Bool},r.1≤t.length→(rdLs t k r).2.1≤t.length
 |0,_,h=>h
 |k+1,_,h=>rdLs_le (k:=k) (rdL_le h)
theorem rdBs_le {t:List UInt8} {most:Int}:∀ {k:Nat} {r:Nat×Bool},r.1≤t.length→(rdBs t most k r).2.1≤t.length
 |0,_,h=>h
 |k+1,_,h=>rdBs_le (k:=k) (rdB_le h)
end Go.Rx
namespace Go.Rx
open Go
theorem u8_eq {c d:UInt8}:c.toNat=d.toNat↔c=d:=UInt8.toNat_inj
end Go.Rx
namespace Go.Rx
end Go.Rx
namespace Go.Rx
open Go
theorem rdLs_badle {t : List UInt8} {r : Nat × Bool} (hr : r.1 ≤ t.length) : ∀ {m i : Nat}, i ≤ m → sfx t (rdLs t i r).2 = none → sfx t (rdLs t m r).2 = none
  | 0, i, hi, h => by obtain rfl : i = 0 := by omega
                      exact h
  | m + 1, i, hi, h => by
    by_cases he : i = m + 1
    · subst he; exact h
    · have h1 := rdLs_badle hr (m := m) (by omega) h
      rw [rdLs_snoc]
      have := rdLs_bad (k := 1) (rdLs_le (k := m) hr) h1
      exact this
theorem rdBs_badle {t : List UInt8} {most : Nat} {r : Nat × Bool} (hr : r.1 ≤ t.length) : ∀ {m i : Nat}, i ≤ m → sfx t (rdBs t most i r).2 = none → sfx t (rdBs t most m r).2 = none
  | 0, i, hi, h => by obtain rfl : i = 0 := by omega
                      exact h
  | m + 1, i, hi, h => by
    by_cases he : i = m + 1
    · subst he; exact h
    · have h1 := rdBs_badle hr (m := m) (by omega) h
      rw [rdBs_snoc]
      have := rdBs_bad (most := most) (k := 1) (rdBs_le (most := most) (k := m) hr) h1
      exact this
theorem sfx_none {t:List UInt8} {r:Nat×Bool}:sfx t r=none↔r.2=true:=by unfold sfx;split<;>simp_all
theorem loose_leaf {c:UInt8} {b:List UInt8} (hc:c=108):looseNode c b=
  if (rdLs (c::b) (min (rdV (c::b) 1000000000 (1,false)).1 10) (rdV (c::b) 1000000000 (1,false)).2).2.2=true then none
  else some (leafOf (rdLs (c::b) (min (rdV (c::b) 1000000000 (1,false)).1 10) (rdV (c::b) 1000000000 (1,false)).2).1):=by
 have hle:(1:Nat)≤(c::b).length:=by simp
 have hv:=rdV_sfx (t:=c::b) (most:=1000000000) (r:=(1,false)) hle
 have hle2:(rdV (c::b) (1000000000:Nat) (1,false)).2.1≤(c::b).length:=rdV_le hle
 have e0:rdV (c::b) 1000000000 (1,false)=rdV (c::b) (1000000000:Nat) (1,false):=rfl
 rw [e0]
 have hs:sfx (c::b) (1,false)=some b:=rfl
 rw [hs] at hv
 simp only at hv
 unfold looseNode
 cases h1:rv b with
 |none=>
  rw [h1] at hv
  simp only at hv
  rw [if_pos (sfx_none.1 (rdLs_bad hle2 hv.2))]
 |some p=>
  obtain ⟨k,l⟩:=p
  rw [h1] at hv
  simp only at hv
  rw [if_pos (rv_iff.1 h1).1] at hv
  simp only
  rw [if_pos hc,hv.1]
  have h2:=rdLs_pl (k:=min k 10) hle2 hv.2
  cases h3:pl (min k 10) l with
  |none=>rw [h3] at h2;rw [if_pos (sfx_none.1 h2)];rfl
  |some p=>
   obtain ⟨es,rest⟩:=p
   rw [h3] at h2
   simp only at h2
   rw [if_neg (fun e=>by rw [sfx_none.2 e] at h2;cases h2.2),h2.1];rfl
theorem loose_branch {c:UInt8} {b:List UInt8} (hc:¬c=108):looseNode c b=
  if (rdBs (c::b) 1000000000 (min (rdV (c::b) 1000000000 (1,false)).1 10) (rdV (c::b) 1000000000 (1,false)).2).2.2=true then none
  else some (branchOf (rdBs (c::b) 1000000000 (min (rdV (c::b) 1000000000 (1,false)).1 10) (rdV (c::b) 1000000000 (1,false)).2).1):=by
 have hle:(1:Nat)≤(c::b).length:=by simp
 have hv:=rdV_sfx (t:=c::b) (most:=1000000000) (r:=(1,false)) hle
 have hle2:(rdV (c::b) (1000000000:Nat) (1,false)).2.1≤(c::b).length:=rdV_le hle
 have e0:rdV (c::b) 1000000000 (1,false)=rdV (c::b) (1000000000:Nat) (1,false):=rfl
 have e1:∀k r,rdBs (c::b) 1000000000 k r=rdBs (c::b) (1000000000:Nat) k r:=fun _ _=>rfl
 rw [e0,e1]
 have hs:sfx (c::b) (1,false)=some b:=rfl
 rw [hs] at hv
 simp only at hv
 unfold looseNode
 cases h1:rv b with
 |none=>
  rw [h1] at hv
  simp only at hv
  rw [if_pos (sfx_none.1 (rdBs_bad (most:=1000000000) hle2 hv.2))]
 |some p=>
  obtain ⟨k,l⟩:=p
  rw [h1] at hv
  simp only at hv
  rw [if_pos (rv_iff.1 h1).1] at hv
  simp only
  rw [if_neg hc,hv.1]
  have h2:=rdBs_pb (most:=1000000000) (k:=min k 10) hle2 hv.2
  cases h3:pb 1000000000 (min k 10) l with
  |none=>rw [h3] at h2;rw [if_pos (sfx_none.1 h2)];rfl
  |some p=>
   obtain ⟨es,rest⟩:=p
   rw [h3] at h2
   simp only at h2
   rw [if_neg (fun e=>by rw [sfx_none.2 e] at h2;cases h2.2),h2.1];rfl
theorem readNode_none {t:List UInt8} (h:unsealB t=none):readNode t=none:=by rw [readNode,h]
theorem readNode_short {t:List UInt8} {s:List UInt8} (h:unsealB t=some s) (hs:s.length<2):readNode t=none:=by
 rw [readNode,h]
 match s,hs with
 |[],_=>rfl
 |[c],_=>
  simp only [readBody,parseNode]
  split
  ·rename_i n hp
   split at hp
   ·cases hp
   ·cases hp
  ·rfl
end Go.Rx
namespace Go.Rx
open Go
theorem kids_four {t:List UInt8} {n:GNode} (h:readNode t=some n):(n.fKeys.zip n.fKids).length≤4∧n.fKeys.length≤4:=by
 have:=(readNode_iff.1 h).1.2.1
 simp only [List.length_zip];omega
theorem mul4 {n g:Nat} (h:n≤4):n*g≤4*g:=Nat.mul_le_mul_right g h
def room (f:Nat) (t:Tr):Prop:=t.pages.length+2*4 ^ f≤1000000000∧t.pairs.length+2*4 ^ f≤1000000000∧t.deeps.length+2*4 ^ f≤1000000000
end Go.Rx
namespace Go.Rx
open Go
theorem kidsS_len {rec:Int→List UInt8→List UInt8→Bool→Al→Al} {L:Al→Nat} {g:Nat} (hr:∀c lo hi m a,L (rec c lo hi m a)+1≤L a+g) {low high:List UInt8} {has:Bool}:∀ {l:List (List UInt8×Int)} {a:Al},
  L (kidsS rec low high has l a)≤L a+l.length*(g - 1)
 |[],a=>by simp [kidsS]
 |(k,c)::l,a=>by
  rw [kidsS]
  have h1:=hr c (lowS low k) (highS high has l) (moreS high has l) a
  have h2:=kidsS_len hr (low:=low) (high:=high) (has:=has) (l:=l) (a:=rec c (lowS low k) (highS high has l) (moreS high has l) a)
  simp only [List.length_cons,Nat.succ_mul];omega
theorem walk_len {d:GDisk} {L:Al→Nat} (hB:∀a b,L {a with bad:=b}=L a)
  (h1:∀a p,L {a with pages:=a.pages++[p]}≤L a+1) (h2:∀(a:Al) p e (q:List GPair) lo,q.length≤4→L ⟨a.pairs++q,a.pages++[p],a.deeps++[e],a.bad,lo⟩≤L a+4):
  ∀ {f:Nat} {page:Int} {low high:List UInt8} {has:Bool} {a:Al},L (walkS d f page low high has a)+1≤L a+2*4 ^ f
 |0,page,_,_,_,a=>by rw [walkS,hB];omega
 |f+1,page,low,high,has,a=>by
  have hp:1≤4 ^ f:=Nat.one_le_pow _ _ (by omega)
  rw [walkS,Nat.pow_succ]
  split
  ·rw [hB];omega
  ·rename_i n hn
   obtain ⟨k4,k5⟩:=kids_four hn
   split
   ·rw [hB];omega
   ·split
    ·rw [leafS_eq]
     have:=h2 a page (7 - (f:Int)) ((n.fKeys.zip n.fVals).map pairOf) (a.loose||(n.fKeys.zip n.fVals).any fun e=>bLess e.1 low||(has&& !bLess e.1 high)) (by simp only [List.length_map,List.length_zip];omega)
     simp only
     omega
    ·have h3:=kidsS_len (L:=L) (rec:=walkS d f) (fun c lo hi m a=>walk_len hB h1 h2) (low:=low) (high:=high) (has:=has) (l:=n.fKeys.zip n.fKids) (a:=⟨a.pairs,a.pages++[page],a.deeps,a.bad,a.loose⟩)
     have h4:=h1 a page
     have h5:=mul4 (g:=2*4 ^ f - 1) k4
     omega
theorem walk_pages {d:GDisk} {f:Nat} {page:Int} {low high:List UInt8} {has:Bool} {a:Al}:(walkS d f page low high has a).pages.length+1≤a.pages.length+2*4 ^ f:=
 walk_len (L:=fun a=>a.pages.length) (fun _ _=>rfl) (fun a p=>by simp) (fun a p e q lo h=>by simp)
theorem walk_pairs {d:GDisk} {f:Nat} {page:Int} {low high:List UInt8} {has:Bool} {a:Al}:(walkS d f page low high has a).pairs.length+1≤a.pairs.length+2*4 ^ f:=
 walk_len (L:=fun a=>a.pairs.length) (fun _ _=>rfl) (fun a p=>by simp) (fun a p e q lo h=>by simp;omega)
theorem walk_deeps {d:GDisk} {f:Nat} {page:Int} {low high:List UInt8} {has:Bool} {a:Al}:(walkS d f page low high has a).deeps.length+1≤a.deeps.length+2*4 ^ f:=
 walk_len (L:=fun a=>a.deeps.length) (fun _ _=>rfl) (fun a p=>by simp) (fun a p e q lo h=>by simp)
def roomS (f:Nat) (a:Al):Prop:=a.pages.length+2*4 ^ f≤1000000000∧a.pairs.length+2*4 ^ f≤1000000000∧a.deeps.length+2*4 ^ f≤1000000000
def leaf1 (low high:List UInt8) (has:Bool) (k v:List UInt8) (a:Al):Al:=⟨a.pairs++[⟨k,v⟩],a.pages,a.deeps,a.bad,a.loose||(bLess k low||(has&& !bLess k high))⟩
theorem leafS_cons {low high:List UInt8} {has:Bool} {k v:List UInt8} {l:List (List UInt8×List UInt8)} {a:Al}:leafS low high has ((k,v)::l) a=leafS low high has l (leaf1 low high has k v a):=rfl
end Go.Rx
namespace Go.Rx
open Go
def giveP (w:GWork):GWork×Int:=match w.fUsable with
 |u::us=>({w with fUsable:=us,fFresh:=w.fFresh++[u]},u)
 |[]=>if (w.fDisk.fPages.length:Int)≤w.fNext then (w,0) else ({w with fNext:=IntKind.i64.wrap (w.fNext+1),fFresh:=w.fFresh++[w.fNext]},w.fNext)
def putN (w:GWork) (n:GNode):Option (GWork×Int):=
 if nodeOk n then if (giveP w).2=0 then none else
  match writePage (giveP w).1.fDisk (giveP w).2 (nodeText n) with
  |none=>none
  |some d=>some ({(giveP w).1 with fDisk:=d},(giveP w).2)
 else none
structure OW where
 pages:List (List UInt8)
 late:List GPut
 next:Int
 ua:List Int
 uo:Nat
 gone:List Int
 fresh:List Int
def OW.work (w:OW):GWork:=⟨⟨w.pages,w.late⟩,w.next,w.ua.drop w.uo,w.gone,w.fresh⟩
def ofW (w:GWork):OW:=⟨w.fDisk.fPages,w.fDisk.fLate,w.fNext,w.fUsable,0,w.fGone,w.fFresh⟩
theorem ofW_work {w:GWork}:(ofW w).work=w:=rfl
def OW.v (w:OW):V:= .agg [.own 0 0 w.pages.length,.own 1 0 w.late.length,.d (.int .i64 w.next),.own 2 w.uo (w.ua.length - w.uo),.own 3 0 w.gone.length,.own 4 0 w.fresh.length]
def OW.h (w:OW):List (Nat×AObj):=[(0,.arr 1 (strs w.pages)),(1,.arr 2 (GPutS w.late)),(2,.arr 1 (ints w.ua)),(3,.arr 1 (ints w.gone)),(4,.arr 1 (ints w.fresh))]
theorem OW.v_eq {w:OW}:w.v= .agg [.own 0 0 w.pages.length,.own 1 0 w.late.length,.d (.int .i64 w.next),.own 2 w.uo (w.ua.length - w.uo),.own 3 0 w.gone.length,.own 4 0 w.fresh.length]:=rfl
theorem OW.h_eq {w:OW}:w.h=[(0,.arr 1 (strs w.pages)),(1,.arr 2 (GPutS w.late)),(2,.arr 1 (ints w.ua)),(3,.arr 1 (ints w.gone)),(4,.arr 1 (ints w.fresh))]:=rfl
theorem flat_owh {w:OW}:FlatH w.h:=flatH_cons flat_strs (flatH_cons flat_GPutS (flatH_cons flat_ints (flatH_cons flat_ints (flatH_cons flat_ints flatH_nil))))
def giveO (w:GWork):OW×Int:=match w.fUsable with
 |u::us=>({ofW w with ua:=u::us,uo:=1,fresh:=w.fFresh++[u]},u)
 |[]=>if (w.fDisk.fPages.length:Int)≤w.fNext then (ofW w,0) else ({ofW w with next:=IntKind.i64.wrap (w.fNext+1),fresh:=w.fFresh++[w.fNext]},w.fNext)
theorem giveO_eq {w:GWork}:((giveO w).1.work,(giveO w).2)=giveP w:=by
 unfold giveO giveP
 cases h:w.fUsable with
 |nil=>
  simp only
  split
  ·rw [ofW_work]
  ·simp [OW.work,ofW,h]
 |cons u us=>simp [OW.work,ofW]
attribute [go_sem] Nat.sub_zero
theorem ints_tail {l:List Int} {o:Nat}:((ints l).drop o).take (l.length - o)=ints (l.drop o):=by
 rw [ints_drop,List.take_of_length_le (by simp [ints])]
attribute [go_sem] ints_tail
end Go.Rx
namespace Go.Rx
open Go
def smallD (d:GDisk):Prop:=d.fPages.length≤1048576∧d.fLate.length≤1048576
def smallW (w:GWork):Prop:=smallD w.fDisk∧w.fUsable.length≤1048576∧w.fGone.length≤1048576∧w.fFresh.length≤1048576+w.fDisk.fLate.length
structure Ch where
 w:OW
 bad:Bool
def Ch.h (c:Ch):List (Nat×AObj):=[(0,.box [.own 1 0 c.w.pages.length,.own 2 0 c.w.late.length,.d (.int .i64 c.w.next),.own 3 c.w.uo (c.w.ua.length - c.w.uo),.own 4 0 c.w.gone.length,.own 5 0 c.w.fresh.length,.d (.bool c.bad)]),
 (1,.arr 1 (strs c.w.pages)),(2,.arr 2 (GPutS c.w.late)),(3,.arr 1 (ints c.w.ua)),(4,.arr 1 (ints c.w.gone)),(5,.arr 1 (ints c.w.fresh))]
theorem giveP_small {w:GWork} (h:smallW w):(giveP w).1.fDisk=w.fDisk∧(giveP w).1.fUsable.length≤1048576∧(giveP w).1.fGone.length≤1048576∧(giveP w).1.fFresh.length≤1048577+w.fDisk.fLate.length:=by
 obtain ⟨h1,h2,h3,h4⟩:=h
 unfold giveP
 split
 ·rename_i u us hu
  rw [hu] at h2
  simp only [List.length_cons] at h2
  refine ⟨rfl,?_,h3,?_⟩
  ·show us.length≤_;omega
  ·show (w.fFresh++[u]).length≤_
   simp only [List.length_append,List.length_cons,List.length_nil];omega
 ·split
  ·exact ⟨rfl,h2,h3,Nat.le_trans h4 (by omega)⟩
  ·refine ⟨rfl,h2,h3,?_⟩
   show (w.fFresh++[w.fNext]).length≤_
   simp only [List.length_append,List.length_cons,List.length_nil];omega
theorem putN_small {w w':GWork} {n:GNode} {p:Int} (h:smallW w) (hp:putN w n=some (w',p)):smallW w':=by
 obtain ⟨g1,g2,g3,g4⟩:=giveP_small h
 unfold putN at hp
 split at hp
 ·split at hp
  ·cases hp
  ·split at hp
   ·cases hp
   ·rename_i d hd
    simp only [Option.some.injEq,Prod.mk.injEq] at hp
    obtain ⟨rfl,rfl⟩:=hp
    unfold writePage at hd
    split at hd
    ·rename_i hc
     obtain rfl:=Option.some.inj hd
     rw [g1]
     have:=h.1.2
     have:=h.1.1
     have:=hc.2.2.2
     rw [g1] at this
     refine ⟨⟨by omega,?_⟩,g2,g3,?_⟩
     ·simp only [List.length_append,List.length_cons,List.length_nil];omega
     ·simp only [List.length_append,List.length_cons,List.length_nil];omega
    ·cases hd
 ·cases hp
theorem putN_page {w w':GWork} {n:GNode} {p:Int} (hp:putN w n=some (w',p)):p≠0:=by
 unfold putN at hp
 split at hp
 ·split at hp
  ·cases hp
  ·rename_i h
   split at hp
   ·cases hp
   ·simp only [Option.some.injEq,Prod.mk.injEq] at hp
    exact hp.2▸h
 ·cases hp
end Go.Rx
namespace Go.Rx
open Go
def chunk4 {α:Type}:List α→List (List α)
 |[]=> []
 |x::l=>((x::l).take 4)::chunk4 (l.drop 3)
termination_by l=>l.length
decreasing_by simp only [List.length_drop,List.length_cons];omega
theorem chunk4_nil {α:Type}:chunk4 ([]:List α)=[]:=by rw [chunk4]
theorem chunk4_cons {α:Type} {l:List α} (h:l≠ []):chunk4 l=l.take 4::chunk4 (l.drop 4):=by
 cases l with
 |nil=>exact absurd rfl h
 |cons x l=>rw [chunk4];rfl
theorem chunk4_at {α:Type} {l:List α} {i:Nat} (h:i<l.length):chunk4 (l.drop i)=(l.drop i).take 4::chunk4 (l.drop (i+4)):=by
 rw [chunk4_cons (fun e=>by have:=congrArg List.length e;simp at this;omega),List.drop_drop]
theorem chunk4_end {α:Type} {l:List α} {i:Nat} (h:l.length≤i):chunk4 (l.drop i)=[]:=by
 rw [List.drop_eq_nil_of_le h,chunk4_nil]
abbrev GKid:=GField
def leafB (b:List GPair):GNode:=⟨true,b.map (·.fKey),b.map (·.fVal),[]⟩
def kidB (b:List GKid):GNode:=⟨false,b.map (·.fName),[],b.map (·.fKind)⟩
def key1:List GPair→List UInt8
 |[]=> []
 |p::_=>p.fKey
def name1:List GKid→List UInt8
 |[]=> []
 |p::_=>p.fName
end Go.Rx
namespace Go.Rx
open Go
theorem chunk4_len {α:Type}:∀(n:Nat) (l:List α),l.length≤n→4*(chunk4 l).length≤l.length+3
 |0,l,h=>by
  have:l=[]:=List.eq_nil_of_length_eq_zero (by omega)
  subst this;rw [chunk4_nil];simp
 |n+1,l,h=>by
  cases l with
  |nil=>rw [chunk4_nil];simp
  |cons x l=>
   have:=chunk4_len n (l.drop 3) (by simp at h ⊢;omega)
   rw [chunk4]
   simp at this ⊢
   by_cases hl:l.length≤3
   ·rw [show l.drop 3=[] from List.drop_eq_nil_of_le hl,chunk4_nil];simp
   ·omega
def page1:List GKid→Int
 |[]=>0
 |k::_=>k.fKind
end Go.Rx
namespace Go.Rx
open Go
def leavesS:GWork→List GKid→List (List GPair)→Option (GWork×List GKid)
 |w,out,[]=>some (w,out)
 |w,out,b::bs=>match putN w (leafB b) with
  |none=>none
  |some (w',p)=>leavesS w' (out++[⟨key1 b,p⟩]) bs
def levelS:GWork→List GKid→List (List GKid)→Option (GWork×List GKid)
 |w,out,[]=>some (w,out)
 |w,out,b::bs=>match putN w (kidB b) with
  |none=>none
  |some (w',p)=>levelS w' (out++[⟨name1 b,p⟩]) bs
def levelsS:Nat→GWork→List GKid→Option (GWork×List GKid)
 |0,w,k=>some (w,k)
 |f+1,w,k=>if 1<k.length then match levelS w [] (chunk4 k) with
  |none=>none
  |some (w',k')=>levelsS f w' k' else some (w,k)
def buildS (w:GWork) (l:List GPair):Option (GWork×Int):=
 if ascK (l.map (·.fKey)) then match leavesS w [] (chunk4 l) with
  |none=>none
  |some (w1,k1)=>match levelsS l.length w1 k1 with
   |none=>none
   |some (w2,k2)=>some (w2,page1 k2)
 else none
theorem levelS_len:∀ {bs:List (List GKid)} {w:GWork} {out:List GKid} {w':GWork} {k:List GKid},levelS w out bs=some (w',k)→k.length=out.length+bs.length
 |[],w,out,w',k,h=>by simp [levelS] at h;rw [h.2];rfl
 |b::bs,w,out,w',k,h=>by
  rw [levelS] at h
  split at h
  ·cases h
  ·have:=levelS_len h
   simp at this ⊢;omega
theorem leavesS_len:∀ {bs:List (List GPair)} {w:GWork} {out:List GKid} {w':GWork} {k:List GKid},leavesS w out bs=some (w',k)→k.length=out.length+bs.length
 |[],w,out,w',k,h=>by simp [leavesS] at h;rw [h.2];rfl
 |b::bs,w,out,w',k,h=>by
  rw [leavesS] at h
  split at h
  ·cases h
  ·have:=leavesS_len h
   simp at this ⊢;omega
theorem levelsS_stop {f:Nat} {w:GWork} {k:List GKid} (h:¬1<k.length):levelsS f w k=some (w,k):=by
 cases f with
 |zero=>rfl
 |succ f=>rw [levelsS,if_neg h]
end Go.Rx
